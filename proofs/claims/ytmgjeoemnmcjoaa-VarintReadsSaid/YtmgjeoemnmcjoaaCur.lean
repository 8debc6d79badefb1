/-
  The methods of a cursor: what each call answers, and where the cursor stands behind it. For a cursor in a block of the call's own, or nil.
-/
import Derived.Test.YtmgjeoemnmcjoaaProg
import Derived.WalkKit
import Derived.WalkSpells
import Derived.WalkLawsBesides
import Derived.Deep.QuietTactic
import Derived.BigQuiet
import Derived.IntWalk
import Derived.Lib.Hide
namespace Go.Proofs.Ytmgjeoemnmcjoaa
open Go.RowKit

/-- A cursor over 's' at the place 'a' lies in block 'g'. -/
def Cur (W : World) (g : Nat) (s : ByteArray) (a : Nat) : Prop := W.heap[g]? = some (.cells #[.string s, .int .i64 a] 72 (0, 0))
theorem Cur.c0 {W : World} {g : Nat} {s : ByteArray} {a : Nat} (h : Cur W g s a) : W.cell? ⟨g, 0, none⟩ = some (.string s) := cell_of_row W g 0 _ 72 (0, 0) h
theorem Cur.c1 {W : World} {g : Nat} {s : ByteArray} {a : Nat} (h : Cur W g s a) : W.cell? ⟨g, 1, none⟩ = some (.int .i64 a) := cell_of_row W g 1 _ 72 (0, 0) h

theorem left_nil (w : World) : Calls Try.prog 17 #[.pointer none] w fun e w' => e = .returned (.int .i64 0) ∧ w' = w := by
  go_enter Try.func17, Try.ntmps17
  go_wp2
  go_ret
  exact ⟨rfl, rfl⟩
theorem at_nil (w : World) : Calls Try.prog 16 #[.pointer none] w fun e w' => e = .returned (.int .i64 0) ∧ w' = w := by
  go_enter Try.func16, Try.ntmps16
  go_wp2
  go_ret
  exact ⟨rfl, rfl⟩
theorem rest_nil (w : World) : Calls Try.prog 15 #[.pointer none] w fun e w' => e = .returned (.string ⟨#[]⟩) ∧ w' = w := by
  go_enter Try.func15, Try.ntmps15
  go_wp2
  go_ret
  exact ⟨rfl, rfl⟩
theorem take_nil (n : Int) (w : World) : Calls Try.prog 13 #[.pointer none, .int .u64 n] w fun e w' => e = .returned (.tuple #[.string ⟨#[]⟩, .bool false]) ∧ w' = w := by
  go_enter Try.func13, Try.ntmps13
  go_wp2
  go_ret2
  exact ⟨rfl, rfl⟩

theorem at_any (w : World) (g : Nat) (s : ByteArray) (a : Nat) (h : Cur w g s a) : Calls Try.prog 16 #[.pointer (some ⟨g, 0, none⟩)] w fun e w' => e = .returned (.int .i64 a) ∧ w' = w := by
  have h1 := h.c1
  go_enter Try.func16, Try.ntmps16
  go_wp2
  go_ret
  exact ⟨rfl, rfl⟩
theorem left_any (w : World) (g : Nat) (s : ByteArray) (a : Nat) (h : Cur w g s a) (hs : s.size ≤ 9223372036854775807) (ha : a ≤ s.size) : Calls Try.prog 17 #[.pointer (some ⟨g, 0, none⟩)] w fun e w' => e = .returned (.int .i64 ((s.size : Int) - a)) ∧ ∃ n, w' = w.drewN n := by
  have h0 := h.c0
  have h1 := h.c1
  go_enter Try.func17, Try.ntmps17
  go_wp2
  go_quiet (fail)
  go_wp2
  go_ret
  exact ⟨rfl, _, rfl⟩
theorem rest_any (w : World) (g : Nat) (s : ByteArray) (a : Nat) (h : Cur w g s a) (_hs : s.size ≤ 9223372036854775807) (ha : a ≤ s.size) : Calls Try.prog 15 #[.pointer (some ⟨g, 0, none⟩)] w fun e w' => e = .returned (.string (s.extract a s.size)) ∧ ∃ n, w' = w.drewN n := by
  have h0 := h.c0
  have h1 := h.c1
  go_enter Try.func15, Try.ntmps15
  go_wp2
  go_quiet (fail)
  go_wp2
  go_ret
  exact ⟨rfl, _, rfl⟩
theorem take_no (w : World) (g : Nat) (s : ByteArray) (a : Nat) (n : Int) (h : Cur w g s a) (hs : s.size ≤ 9223372036854775807) (ha : a ≤ s.size) (hn : (s.size : Int) - a < n) : Calls Try.prog 13 #[.pointer (some ⟨g, 0, none⟩), .int .u64 n] w fun e w' => e = .returned (.tuple #[.string ⟨#[]⟩, .bool false]) ∧ ∃ n, w' = w.drewN n := by
  have h0 := h.c0
  have h1 := h.c1
  go_enter Try.func13, Try.ntmps13
  go_wp2_with (go_at_call 17; refine (left_any _ g s a h hs ha).mono ?_; rintro e w' ⟨rfl, m, rfl⟩)
  go_ret2
  exact ⟨rfl, _, rfl⟩
theorem take_yes (w : World) (g : Nat) (s : ByteArray) (a : Nat) (n : Nat) (h : Cur w g s a) (hs : s.size ≤ 9223372036854775807) (ha : a + n ≤ s.size) : Calls Try.prog 13 #[.pointer (some ⟨g, 0, none⟩), .int .u64 n] w fun e w' => e = .returned (.tuple #[.string (s.extract a (a + n)), .bool true]) ∧ ∃ m, w' = (w.drewN m).setCell ⟨g, 1, none⟩ (.int .i64 ((a + n : Nat) : Int)) := by
  have h0 := h.c0
  have h1 := h.c1
  have hf : w.frozen? ⟨g, 1, none⟩ = false := by unfold Cur at h; simp [World.frozen?, h]
  have hw : IntKind.i64.wrap (n : Int) = n := IntWalk.i64_in _ (by omega)
  have hw2 : IntKind.i64.wrap ((a : Int) + n) = (a : Int) + n := IntWalk.i64_in _ (by omega)
  have HW := Lib.hid hw
  have HW2 := Lib.hid hw2
  clear hw hw2
  go_enter Try.func13, Try.ntmps13
  go_wp2_with (go_at_call 17; refine (left_any _ g s a h hs (by omega)).mono ?_; rintro e w' ⟨rfl, m, rfl⟩)
  have hw := HW.out
  have hw2 := HW2.out
  go_quiet (fail)
  clear hw hw2
  go_wp2
  go_ret2
  exact ⟨rfl, _, rfl⟩

theorem Cur.lt {W : World} {g : Nat} {s : ByteArray} {a : Nat} (h : Cur W g s a) : g < W.heap.size := (Array.getElem?_eq_some_iff.1 h).1
theorem Cur.set {W : World} {g : Nat} {s : ByteArray} {a : Nat} (h : Cur W g s a) (m b : Nat) : Cur ((W.drewN m).setCell ⟨g, 1, none⟩ (.int .i64 (b : Int))) g s b := by
  unfold Cur at h ⊢
  simp [World.setCell, Array.getElem?_modify, h]
theorem Cur.below {W W' : World} {g : Nat} {s : ByteArray} {a : Nat} (h : Cur W g s a) (hb : Below W.heap.size W W') : Cur W' g s a := (hb.block g h.lt).trans h
theorem Cur.drewN {W : World} {g : Nat} {s : ByteArray} {a : Nat} (h : Cur W g s a) (m : Nat) : Cur (W.drewN m) g s a := h
theorem below_dn {B : Nat} {w W : World} (h : Below B w W) (n : Nat) : Below B w (W.drewN n) := ⟨h.os, h.tape, h.output, h.size, h.block⟩

/-- What a call leaves: the cursor in block g stands at a; below B nothing has turned. -/
structure At (B : Nat) (w0 W : World) (g : Nat) (s : ByteArray) (a : Nat) : Prop where
  cur : Cur W g s a
  base : B ≤ g
  le : a ≤ s.size
  small : s.size ≤ 9223372036854775807
  old : Below B w0 W
/-- What stands elsewhere stays. -/
theorem grown_set (W : World) (g m : Nat) (v : Value) : W.grownBy ((W.drewN m).setCell ⟨g, 1, none⟩ v) (some g) :=
  ⟨rfl, rfl, rfl, by simp [World.setCell], fun k _ hne => Below.heap_setCell _ _ _ _ (fun e => hne (by rw [e]))⟩
theorem grown_dn (W : World) (m : Nat) (row : Option Nat) : W.grownBy (W.drewN m) row := ⟨rfl, rfl, rfl, Nat.le_refl _, fun _ _ _ => rfl⟩
theorem grown_below {W W' : World} (h : Below W.heap.size W W') (row : Option Nat) : W.grownBy W' row := ⟨h.os, h.tape, h.output, h.size, fun k hk _ => h.block k hk⟩
theorem grown_trans {W W' W2 : World} {row : Option Nat} (h : W.grownBy W' row) (k : W'.grownBy W2 row) : W.grownBy W2 row :=
  ⟨k.os.trans h.os, k.tape.trans h.tape, k.output.trans h.output, Nat.le_trans h.size k.size, fun i hi hne => (k.block i (Nat.lt_of_lt_of_le hi h.size) hne).trans (h.block i hi hne)⟩
theorem At.set {B : Nat} {w0 W : World} {g : Nat} {s : ByteArray} {a : Nat} (h : At B w0 W g s a) (m b : Nat) (hb : b ≤ s.size) : At B w0 ((W.drewN m).setCell ⟨g, 1, none⟩ (.int .i64 (b : Int))) g s b :=
  ⟨h.cur.set m b, h.base, hb, h.small, (below_dn h.old m).setCell h.base _⟩
theorem At.drewN {B : Nat} {w0 W : World} {g : Nat} {s : ByteArray} {a : Nat} (h : At B w0 W g s a) (m : Nat) : At B w0 (W.drewN m) g s a := ⟨h.cur, h.base, h.le, h.small, below_dn h.old m⟩
theorem At.below {B : Nat} {w0 W W' : World} {g : Nat} {s : ByteArray} {a : Nat} (h : At B w0 W g s a) (hb : Below W.heap.size W W') : At B w0 W' g s a :=
  ⟨h.cur.below hb, h.base, h.le, h.small, h.old.trans (hb.mono (by have := h.cur.lt; have := h.base; omega))⟩

theorem at_c {B : Nat} {w0 w : World} {g : Nat} {s : ByteArray} {a : Nat} (h : At B w0 w g s a) : Calls Try.prog 16 #[.pointer (some ⟨g, 0, none⟩)] w fun e w' => e = .returned (.int .i64 a) ∧ At B w0 w' g s a ∧ w.grownBy w' (some g) :=
  (at_any w g s a h.cur).mono fun _ _ ⟨he, hw⟩ => ⟨he, by rw [hw]; exact ⟨h, grown_dn w 0 _⟩⟩
theorem left_c {B : Nat} {w0 w : World} {g : Nat} {s : ByteArray} {a : Nat} (h : At B w0 w g s a) : Calls Try.prog 17 #[.pointer (some ⟨g, 0, none⟩)] w fun e w' => e = .returned (.int .i64 ((s.size : Int) - a)) ∧ At B w0 w' g s a ∧ w.grownBy w' (some g) :=
  (left_any w g s a h.cur h.small h.le).mono fun _ _ ⟨he, n, hw⟩ => ⟨he, by rw [hw]; exact ⟨h.drewN n, grown_dn w n _⟩⟩
theorem rest_c {B : Nat} {w0 w : World} {g : Nat} {s : ByteArray} {a : Nat} (h : At B w0 w g s a) : Calls Try.prog 15 #[.pointer (some ⟨g, 0, none⟩)] w fun e w' => e = .returned (.string (s.extract a s.size)) ∧ At B w0 w' g s a ∧ w.grownBy w' (some g) :=
  (rest_any w g s a h.cur h.small h.le).mono fun _ _ ⟨he, n, hw⟩ => ⟨he, by rw [hw]; exact ⟨h.drewN n, grown_dn w n _⟩⟩
theorem take_c_no {B : Nat} {w0 w : World} {g : Nat} {s : ByteArray} {a : Nat} {n : Int} (h : At B w0 w g s a) (hn : (s.size : Int) - a < n) : Calls Try.prog 13 #[.pointer (some ⟨g, 0, none⟩), .int .u64 n] w fun e w' => e = .returned (.tuple #[.string ⟨#[]⟩, .bool false]) ∧ At B w0 w' g s a ∧ w.grownBy w' (some g) :=
  (take_no w g s a n h.cur h.small h.le hn).mono fun _ _ ⟨he, n, hw⟩ => ⟨he, by rw [hw]; exact ⟨h.drewN n, grown_dn w n _⟩⟩
theorem take_c {B : Nat} {w0 w : World} {g : Nat} {s : ByteArray} {a : Nat} {n : Nat} (h : At B w0 w g s a) (hn : a + n ≤ s.size) : Calls Try.prog 13 #[.pointer (some ⟨g, 0, none⟩), .int .u64 n] w fun e w' => e = .returned (.tuple #[.string (s.extract a (a + n)), .bool true]) ∧ At B w0 w' g s (a + n) ∧ w.grownBy w' (some g) :=
  (take_yes w g s a n h.cur h.small hn).mono fun _ _ ⟨he, m, hw⟩ => ⟨he, by rw [hw]; exact ⟨h.set m (a + n) hn, grown_set w g m _⟩⟩

theorem byte_nil (w : World) : Calls Try.prog 12 #[.pointer none] w fun e w' => e = .returned (.tuple #[.int .u8 0, .bool false]) ∧ w' = w := by
  go_enter Try.func12, Try.ntmps12
  go_wp2_with (go_at_call 13; refine (take_nil _ _).mono ?_; rintro e w' ⟨rfl, rfl⟩)
  go_ret2
  exact ⟨rfl, rfl⟩
theorem sub_nil (n : Int) (w : World) : Calls Try.prog 14 #[.pointer none, .int .u64 n] w fun e w' => e = .returned (.tuple #[.pointer none, .bool false]) ∧ w' = w := by
  go_enter Try.func14, Try.ntmps14
  go_wp2_with (go_at_call 13; refine (take_nil _ _).mono ?_; rintro e w' ⟨rfl, rfl⟩)
  go_ret2
  exact ⟨rfl, rfl⟩
theorem byte_c_no {B : Nat} {w0 w : World} {g : Nat} {s : ByteArray} {a : Nat} (h : At B w0 w g s a) (ha : a = s.size) : Calls Try.prog 12 #[.pointer (some ⟨g, 0, none⟩)] w fun e w' => e = .returned (.tuple #[.int .u8 0, .bool false]) ∧ At B w0 w' g s a ∧ w.grownBy w' (some g) := by
  have h1 : (s.size : Int) - a < 1 := by omega
  have H1 := Lib.hid h1
  have HA := Lib.hid ha
  clear h1 ha
  go_enter Try.func12, Try.ntmps12
  go_wp2_with (go_at_call 13; refine (take_c_no h H1.out).mono ?_; rintro e w' ⟨rfl, h'⟩)
  go_ret2
  exact ⟨rfl, h'⟩
theorem byte_c {B : Nat} {w0 w : World} {g : Nat} {s : ByteArray} {a : Nat} (h : At B w0 w g s a) (ha : a < s.size) : Calls Try.prog 12 #[.pointer (some ⟨g, 0, none⟩)] w fun e w' => e = .returned (.tuple #[.int .u8 (s[a].toNat : Int), .bool true]) ∧ At B w0 w' g s (a + 1) ∧ w.grownBy w' (some g) := by
  have hsz : 0 < (s.extract a (a + 1)).size := by simp; omega
  have hx : (s.extract a (a + 1))[0] = s[a] := by simp [ByteArray.getElem_extract]
  have HX := Lib.hid hx
  clear hx
  go_enter Try.func12, Try.ntmps12
  go_wp2_with (go_at_call 13; refine (take_c (n := 1) h (by omega)).mono ?_; rintro e w' ⟨rfl, h'⟩)
  go_ret2
  exact ⟨by show Ending.returned (.tuple #[.int .u8 ((s.extract a (a + 1))[0].toNat : Int), .bool true]) = _; rw [HX.out], h'⟩
theorem over_any (s : ByteArray) (w : World) : Calls Try.prog 10 #[.string s] w fun e w' => e = .returned (.pointer (some ⟨w.heap.size, 0, none⟩)) ∧ w' = w.alloc (.cells #[.string s, .int .i64 0] 72) := by
  go_enter Try.func10, Try.ntmps10
  go_wp2
  go_ret
  exact ⟨rfl, rfl⟩
theorem over_c {B : Nat} {w0 w : World} (hB : Below B w0 w) (hz : B ≤ w.heap.size) (s : ByteArray) (hs : s.size ≤ 9223372036854775807) : Calls Try.prog 10 #[.string s] w fun e w' => ∃ g, e = .returned (.pointer (some ⟨g, 0, none⟩)) ∧ At B w0 w' g s 0 ∧ Below w.heap.size w w' :=
  (over_any s w).mono fun _ _ ⟨he, hw⟩ => ⟨_, he, by rw [hw]; exact ⟨by show (w.heap.push (.cells #[.string s, .int .i64 0] 72))[w.heap.size]? = some (.cells #[.string s, .int .i64 ((0 : Nat) : Int)] 72 (0, 0)); simp, hz, Nat.zero_le _, hs, hB.alloc hz _⟩, by rw [hw]; exact (Below.refl _ _).alloc (Nat.le_refl _) _⟩
theorem sub_c_no {B : Nat} {w0 w : World} {g : Nat} {s : ByteArray} {a : Nat} {n : Int} (h : At B w0 w g s a) (hn : (s.size : Int) - a < n) : Calls Try.prog 14 #[.pointer (some ⟨g, 0, none⟩), .int .u64 n] w fun e w' => e = .returned (.tuple #[.pointer none, .bool false]) ∧ At B w0 w' g s a ∧ w.grownBy w' (some g) := by
  have H1 := Lib.hid hn
  clear hn
  go_enter Try.func14, Try.ntmps14
  go_wp2_with (go_at_call 13; refine (take_c_no h H1.out).mono ?_; rintro e w' ⟨rfl, h'⟩)
  go_ret2
  exact ⟨rfl, h'⟩
/-- What 'Sub' answers, and both cursors. -/
def SubP (B : Nat) (w0 w : World) (g : Nat) (s : ByteArray) (a n : Nat) (e : Ending) (w' : World) : Prop :=
  ∃ g2, e = .returned (.tuple #[.pointer (some ⟨g2, 0, none⟩), .bool true]) ∧ At B w0 w' g2 (s.extract a (a + n)) 0 ∧ At B w0 w' g s (a + n) ∧ w.grownBy w' (some g)
theorem sub_c {B : Nat} {w0 w : World} {g : Nat} {s : ByteArray} {a n : Nat} (h : At B w0 w g s a) (hn : a + n ≤ s.size) : Calls Try.prog 14 #[.pointer (some ⟨g, 0, none⟩), .int .u64 n] w (SubP B w0 w g s a n) := by
  have hs2 : (s.extract a (a + n)).size ≤ 9223372036854775807 := by have := h.small; simp; omega
  go_enter Try.func14, Try.ntmps14
  go_wp2_with (first | (go_at_call 13; refine (take_c h hn).mono ?_; rintro e w1 ⟨rfl, h1, hg1⟩; have hz1 : B ≤ w1.heap.size := (by have := h1.cur.lt; have := h1.base; omega)) | (go_at_call 10; refine (over_c h1.old hz1 _ hs2).mono ?_; rintro e w2 ⟨g2, rfl, h2, hb2⟩))
  go_ret2
  exact ⟨g2, rfl, h2, h1.below hb2, grown_trans hg1 (grown_below hb2 _)⟩
end Go.Proofs.Ytmgjeoemnmcjoaa
