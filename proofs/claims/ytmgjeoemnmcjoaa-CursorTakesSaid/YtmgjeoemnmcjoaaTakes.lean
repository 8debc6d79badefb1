/-
  CursorTakes, the walk: over any text and any acts the call answers true, and nothing that was there turns.
-/
import Derived.Test.YtmgjeoemnmcjoaaAwa
import Derived.Test.YtmgjeoemnmcjoaaRefTake
import Derived.Deep.LoopGhost
import Derived.Deep.DeepCutAuto
import Derived.Deep.Slices
import Derived.Laws.IdiomStrings
namespace Go.Proofs.Ytmgjeoemnmcjoaa
open Go.RowKit

/-- The document's cursor, in its cell. -/
def Ref (W : World) (g : Nat) (r : ByteArray) (a : Nat) : Prop := W.heap[g]? = some (.cells #[.string r, .int .i64 a] 27 (0, 0))
def Acts (w : World) (A : Option Addr) (len : Nat) : Prop := ∀ i, i < len → ∃ (b o d n : Nat), A = some ⟨b, o, none⟩ ∧ d < 256 ∧ w.cell? ⟨b, o + i * 2, none⟩ = some (.int .u8 d) ∧ w.cell? ⟨b, o + i * 2 + 1, none⟩ = some (.int .u64 n)
theorem add_flat (b o j : Nat) : (⟨b, o, none⟩ : Addr).add j = ⟨b, o + j, none⟩ := by unfold Addr.add; split <;> simp_all

theorem wp_gen {P : Program} {c : Code} {Q : Exit → Act → World → Prop} {a : Act} {W : World} (S : World → Prop) (h : S W) (k : ∀ W', S W' → Code.wp P c Q a W') : Code.wp P c Q a W := k W h
theorem Ref.lt {W : World} {g : Nat} {r : ByteArray} {a : Nat} (h : Ref W g r a) : g < W.heap.size := (Array.getElem?_eq_some_iff.1 h).1
theorem Ref.grown {W W' : World} {g : Nat} {r : ByteArray} {a : Nat} (h : Ref W g r a) {row : Option Nat} (hg : W.grownBy W' row) (hne : some g ≠ row) : Ref W' g r a := (hg.block g h.lt hne).trans h
theorem Ref.below {W W' : World} {g : Nat} {r : ByteArray} {a : Nat} (h : Ref W g r a) (hb : Below W.heap.size W W') : Ref W' g r a := (hb.block g h.lt).trans h
theorem Ref.new (W : World) (r : ByteArray) (a : Nat) : Ref (W.alloc (.cells #[.string r, .int .i64 a] 27)) W.heap.size r a := by
  show (W.heap.push _)[W.heap.size]? = _
  rw [Array.getElem?_push, if_pos rfl]
theorem Ref.c0 {W : World} {g : Nat} {r : ByteArray} {a : Nat} (h : Ref W g r a) : W.cell? ⟨g, 0, none⟩ = some (.string r) := cell_of_row W g 0 _ 27 (0, 0) h
theorem Ref.c1 {W : World} {g : Nat} {r : ByteArray} {a : Nat} (h : Ref W g r a) : W.cell? ⟨g, 1, none⟩ = some (.int .i64 a) := cell_of_row W g 1 _ 27 (0, 0) h
theorem Ref.z {W : World} {g : Nat} {r : ByteArray} {a : Nat} (h : Ref W g r a) (j : Nat) : W.frozen? ⟨g, j, none⟩ = false := frozen_of_row W g j _ 27 h
theorem Ref.ne {W : World} {g gd : Nat} {s r : ByteArray} {a p : Nat} (h : Ref W gd r a) (hc : Cur W g s p) : gd ≠ g := by
  rintro rfl
  have := h.symm.trans hc
  simp at this
theorem new_ref {W : World} {B : Nat} {w0 : World} {g : Nat} {s : ByteArray} {a : Nat} (h : At B w0 W g s a) (o : Obj) : At B w0 (W.alloc o) g s a := h.below ((Below.refl _ _).alloc (Nat.le_refl _) _)
theorem At.far {B : Nat} {w0 W : World} {g : Nat} {s : ByteArray} {a : Nat} (h : At B w0 W g s a) {p : Addr} (hp : p.block ≠ g) (hB : B ≤ p.block) (v : Value) : At B w0 (W.setCell p v) g s a :=
  ⟨(Below.heap_setCell W p v g (fun e => hp e.symm)).trans h.cur, h.base, h.le, h.small, h.old.setCell hB v⟩
theorem conv_one (w : World) (x : UInt8) : (convert 35 9 (.slice (some ⟨w.heap.size, 0, none⟩) 1 1)).run Try.prog (w.alloc (.cells #[.int .u8 (x.toNat : Int)] 5)) = .ok (.string ⟨#[x]⟩) (w.alloc (.cells #[.int .u8 (x.toNat : Int)] 5)) :=
  run_convert_bytes_back _ 35 9 5 ⟨w.heap.size, 0, none⟩ 1 [x] Try.underlying35 Try.underlying5 Try.underlying9 (fun j hj => by
    obtain rfl : j = 0 := by simp at hj; exact hj
    rw [add_flat]
    simp)
theorem one_ext (s : ByteArray) (p : Nat) (h : p < s.size) : (s.extract p (p + 1)).toList = [s[p]] := by
  have e : s.extract p (p + 1) = ⟨#[s[p]]⟩ := by
    apply ByteArray.ext
    apply Array.ext
    · have := h; simp; omega
    · intro i h1 h2
      obtain rfl : i = 0 := by simp at h2; exact h2
      simp
      rfl
  have h1 : 0 < (⟨#[s[p]]⟩ : ByteArray).size := Nat.one_pos
  have h2 : ¬ 0 + 1 < (⟨#[s[p]]⟩ : ByteArray).size := Nat.lt_irrefl 1
  rw [e, ByteArray.toList, ByteArray.toList.loop, if_pos h1, ByteArray.toList.loop, if_neg h2]
  rfl
theorem app_nil (s : ByteArray) : s ++ (⟨#[]⟩ : ByteArray) = s := ByteArray.append_empty
theorem ext_head (s : ByteArray) (p m : Nat) : (s.extract p s.size).extract 0 m = s.extract p (min (p + m) s.size) := by
  rw [ByteArray.extract_extract]; congr 1
theorem ext_tail (s : ByteArray) (p m : Nat) : (s.extract p s.size).extract m (s.extract p s.size).size = s.extract (p + m) s.size := by
  rw [ByteArray.extract_extract]; congr 1; simp; omega
theorem rt_yes (s : ByteArray) (p m : Nat) (w : World) (hs : s.size ≤ 2000) (hm : p + m ≤ s.size) :
    Calls Try.prog 11 #[.agg #[.string (s.extract p s.size), .int .i64 p], .int .u64 m] w fun e w' => e = .returned (.tuple #[.agg #[.string (s.extract (p + m) s.size), .int .i64 ((p + m : Nat) : Int)], .string (s.extract p (p + m)), .bool true]) ∧ Below w.heap.size w w' := by
  have h := rtake_yes (s.extract p s.size) p m w (by simp; omega) (by simp; omega) (by omega)
  rw [ext_tail, ext_head, Nat.min_eq_left hm] at h
  exact h
/-- Both cursors, ours and the document's, at the round's head. -/
structure Both (w W : World) (g gd : Nat) (s : ByteArray) (p : Nat) : Prop where
  ours : At w.heap.size w W g s p
  docs : Ref W gd (s.extract p s.size) p
  base : w.heap.size ≤ gd
theorem Both.below {w W W' : World} {g gd : Nat} {s : ByteArray} {p : Nat} (h : Both w W g gd s p) (hb : Below W.heap.size W W') : Both w W' g gd s p := ⟨h.ours.below hb, h.docs.below hb, h.base⟩
theorem Both.alloc {w W : World} {g gd : Nat} {s : ByteArray} {p : Nat} (h : Both w W g gd s p) (o : Obj) : Both w (W.alloc o) g gd s p := h.below ((Below.refl _ _).alloc (Nat.le_refl _) _)
/-- The same, the rest under a name. -/
structure Tail (w W : World) (g gd : Nat) (s r : ByteArray) (q : Nat) : Prop where
  ours : At w.heap.size w W g s q
  docs : Ref W gd r q
  base : w.heap.size ≤ gd
  eq : r = s.extract q s.size
theorem Tail.both {w W : World} {g gd : Nat} {s r : ByteArray} {q : Nat} (h : Tail w W g gd s r q) (m : Nat) : Both w (W.drewN m) g gd s q := ⟨h.ours.drewN m, by have := h.docs; rw [h.eq] at this; exact this, h.base⟩
theorem Tail.rest {w W : World} {g gd : Nat} {s r : ByteArray} {q : Nat} (h : Tail w W g gd s r q) (n : Nat) : Calls Try.prog 15 #[.pointer (some ⟨g, 0, none⟩)] (W.drewN n) fun e w' => e = .returned (.string r) ∧ ∃ m, w' = W.drewN m := by
  rw [h.eq]
  exact Calls.quiet_of (rest_any _ g s q (h.ours.cur.drewN _) h.ours.small h.ours.le)
theorem Tail.left {w W : World} {g gd : Nat} {s r : ByteArray} {q : Nat} (h : Tail w W g gd s r q) (n : Nat) : Calls Try.prog 17 #[.pointer (some ⟨g, 0, none⟩)] (W.drewN n) fun e w' => e = .returned (.int .i64 (r.size : Int)) ∧ ∃ m, w' = W.drewN m := by
  have e : (r.size : Int) = (s.size : Int) - q := by have := h.ours.le; rw [h.eq]; simp; omega
  rw [e]
  exact Calls.quiet_of (left_any _ g s q (h.ours.cur.drewN _) h.ours.small h.ours.le)
theorem Tail.at_ {w W : World} {g gd : Nat} {s r : ByteArray} {q : Nat} (h : Tail w W g gd s r q) (n : Nat) : Calls Try.prog 16 #[.pointer (some ⟨g, 0, none⟩)] (W.drewN n) fun e w' => e = .returned (.int .i64 q) ∧ ∃ m, w' = W.drewN m :=
  Calls.quiet_of_same (at_any _ g s q (h.ours.cur.drewN _))
theorem Tail.below {w W W' : World} {g gd : Nat} {s r : ByteArray} {q : Nat} (h : Tail w W g gd s r q) (hb : Below W.heap.size W W') : Tail w W' g gd s r q := ⟨h.ours.below hb, h.docs.below hb, h.base, h.eq⟩
theorem tail_set {w W : World} {g gd : Nat} {s r0 : ByteArray} {p0 q : Nat} (ha : At w.heap.size w W g s q) (hd : Ref W gd r0 p0) (hb : w.heap.size ≤ gd) :
    Tail w ((W.setCell ⟨gd, 0, none⟩ (.string (s.extract q s.size))).setCell ⟨gd, 1, none⟩ (.int .i64 (q : Int))) g gd s (s.extract q s.size) q :=
  ⟨(ha.far (p := ⟨gd, 0, none⟩) (hd.ne ha.cur) hb _).far (p := ⟨gd, 1, none⟩) (hd.ne ha.cur) hb _, blk2_set hd _ _, hb, rfl⟩
theorem rt_no (s : ByteArray) (p : Nat) (n : Int) (w : World) (hs : s.size ≤ 2000) (hn : (s.size : Int) - p < n) (hp : p ≤ s.size) :
    Calls Try.prog 11 #[.agg #[.string (s.extract p s.size), .int .i64 p], .int .u64 n] w fun e w' => e = .returned (.tuple #[.agg #[.string (s.extract p s.size), .int .i64 p], .string ⟨#[]⟩, .bool false]) ∧ Below w.heap.size w w' :=
  rtake_no (s.extract p s.size) p n w (by simp; omega) (by simp; omega)
/-- What stands behind the document's Take: both cursors as they were, its answer in a block of its own, the act. -/
structure Mid (w W : World) (g gd gn ga : Nat) (s : ByteArray) (p q d n : Nat) : Prop where
  both : Both w W g gd s p
  next : Ref W gn (s.extract q s.size) q
  base : w.heap.size ≤ gn
  act : W.heap[ga]? = some (.cells #[.int .u8 d, .int .u64 n] 30 (0, 0))
theorem mid_of {w wr w3 : World} {g gd : Nat} {s : ByteArray} {p : Nat} (d n q : Nat) (h : Both w wr g gd s p) (hb : Below (wr.alloc (.cells #[.int .u8 d, .int .u64 n] 30)).heap.size (wr.alloc (.cells #[.int .u8 d, .int .u64 n] 30)) w3) :
    Mid w (w3.alloc (.cells #[.string (s.extract q s.size), .int .i64 q] 27)) g gd w3.heap.size wr.heap.size s p q d n := by
  have h1 := (h.alloc (.cells #[.int .u8 d, .int .u64 n] 30)).below hb
  have hlt : wr.heap.size < (wr.alloc (.cells #[.int .u8 d, .int .u64 n] 30)).heap.size := by simp
  refine ⟨h1.alloc _, Ref.new w3 _ q, h1.ours.old.size, ?_⟩
  rw [Below.heap_alloc _ _ _ (Nat.lt_of_lt_of_le hlt hb.size), hb.block _ hlt]
  show (wr.heap.push _)[wr.heap.size]? = _
  rw [Array.getElem?_push, if_pos rfl]
/-- What stands behind our own call: what the copy of the document's answer reads and writes. -/
structure Post (w W : World) (g gd gn : Nat) (s : ByteArray) (q : Nat) : Prop where
  ours : At w.heap.size w W g s q
  old : ∃ r a, Ref W gd r a
  next : Ref W gn (s.extract q s.size) q
  base : w.heap.size ≤ gd
theorem post_of {w W W' : World} {g gd gn ga : Nat} {s : ByteArray} {p q d n : Nat} (h : Mid w W g gd gn ga s p q d n) (ha : At w.heap.size w W' g s q) (hg : W.grownBy W' (some g)) : Post w W' g gd gn s q :=
  ⟨ha, ⟨_, _, h.both.docs.grown hg (by simpa using h.both.docs.ne h.both.ours.cur)⟩, h.next.grown hg (by simpa using h.next.ne h.both.ours.cur), h.both.base⟩
theorem Post.tail {w W : World} {g gd gn : Nat} {s : ByteArray} {q : Nat} (h : Post w W g gd gn s q) :
    ∃ r, Tail w ((W.setCell ⟨gd, 0, none⟩ (.string (s.extract q s.size))).setCell ⟨gd, 1, none⟩ (.int .i64 (q : Int))) g gd s r q := by
  obtain ⟨r, a, hr⟩ := h.old
  exact ⟨_, tail_set h.ours hr h.base⟩
theorem Post.z {w W : World} {g gd gn : Nat} {s : ByteArray} {q : Nat} (h : Post w W g gd gn s q) (j : Nat) : W.frozen? ⟨gd, j, none⟩ = false := by
  obtain ⟨r, a, hr⟩ := h.old
  exact hr.z j
theorem Post.some0 {w W : World} {g gd gn : Nat} {s : ByteArray} {q : Nat} (h : Post w W g gd gn s q) : ∃ v0 v1, W.cell? ⟨gd, 0, none⟩ = some v0 ∧ W.cell? ⟨gd, 1, none⟩ = some v1 := by
  obtain ⟨r, a, hr⟩ := h.old
  exact ⟨_, _, hr.c0, hr.c1⟩
theorem Post.lt {w W : World} {g gd gn : Nat} {s : ByteArray} {q : Nat} (h : Post w W g gd gn s q) : gd < W.heap.size := by
  obtain ⟨r, a, hr⟩ := h.old
  exact hr.lt
theorem sub_rest {W : World} {g : Nat} {t : ByteArray} (h : Cur W g t 0) (hs : t.size ≤ 9223372036854775807) : Calls Try.prog 15 #[.pointer (some ⟨g, 0, none⟩)] W fun e w' => e = .returned (.string t) ∧ ∃ n, w' = W.drewN n := by
  have h1 := rest_any W g t 0 h hs (Nat.zero_le _)
  rw [ByteArray.extract_zero_size] at h1
  exact h1
theorem sub_at {W : World} {g : Nat} {t : ByteArray} (h : Cur W g t 0) : Calls Try.prog 16 #[.pointer (some ⟨g, 0, none⟩)] W fun e w' => e = .returned (.int .i64 0) ∧ w' = W := at_any W g t 0 h
theorem sub_left {W : World} {g : Nat} {t : ByteArray} (h : Cur W g t 0) (hs : t.size ≤ 9223372036854775807) : Calls Try.prog 17 #[.pointer (some ⟨g, 0, none⟩)] W fun e w' => e = .returned (.int .i64 (t.size : Int)) ∧ ∃ n, w' = W.drewN n := by
  have h1 := left_any W g t 0 h hs (Nat.zero_le _)
  rw [show ((t.size : Int) - ((0 : Nat) : Int)) = (t.size : Int) by omega] at h1
  exact h1

set_option maxRecDepth 100000 in
set_option maxHeartbeats 4000000 in
theorem takes_far (s : ByteArray) (A : Option Addr) (len cap : Nat) (w : World) (hs : s.size ≤ 9223372036854775807) (hl : len ≤ 9223372036854775807) (h : 2000 < s.size ∨ 60 < len) :
    Calls Try.prog 3 #[.string s, .slice A len cap] w fun e w' => e = .returned (.bool true) ∧ Below w.heap.size w w' := by
  go_enter Try.func3, Try.ntmps3
  by_cases h2 : 2000 < s.size
  · go_wp2_with (go_at_call 9; refine (awake1 _).mono ?_; rintro e w1 ⟨rfl, h1⟩)
    go_ret
    exact ⟨rfl, h1⟩
  · have h3 : 60 < len := by omega
    clear h
    go_wp2_with (go_at_call 9; refine (awake1 _).mono ?_; rintro e w1 ⟨rfl, h1⟩)
    go_ret
    exact ⟨rfl, h1⟩
set_option maxRecDepth 100000 in
set_option maxHeartbeats 4000000 in
theorem takes_near (s : ByteArray) (A : Option Addr) (len cap : Nat) (w : World) (hs : s.size ≤ 2000) (hl : len ≤ 60) (h : Acts w A len) :
    Calls Try.prog 3 #[.string s, .slice A len cap] w fun e w' => e = .returned (.bool true) ∧ Below w.heap.size w w' := by
  go_enter Try.func3, Try.ntmps3
  go_wp2_with (first
    | (go_at_call 9; refine (awake1 _).mono ?_; rintro e w1 ⟨rfl, h1⟩; have hz1 := h1.size)
    | (go_at_call 10; refine (over_c h1 hz1 s (by omega)).mono ?_; rintro e w2 ⟨g, rfl, h2, hb2⟩))
  have hd0 : Ref (w2.alloc (Obj.cells #[Value.string s, Value.int IntKind.i64 0] 27)) w2.heap.size s 0 := by
    show (w2.heap.push _)[w2.heap.size]? = _
    rw [Array.getElem?_push, if_pos rfl]
    rfl
  have ha0 : At w.heap.size w (w2.alloc (Obj.cells #[Value.string s, Value.int IntKind.i64 0] 27)) g s 0 := h2.below ((Below.refl _ _).alloc (Nat.le_refl _) _)
  have hgd : w.heap.size ≤ w2.heap.size := h2.old.size
  generalize (w2.alloc (Obj.cells #[Value.string s, Value.int IntKind.i64 0] 27)) = W at hd0 ha0 ⊢
  generalize w2.heap.size = gd at hd0 hgd ⊢
  clear h1 hz1 h2 hb2
  go_loopw [7, 36] (fun v7 v36 wr => ∃ k p : Nat, k ≤ len ∧ v36 = .int .i64 k ∧ v7 = .string (s.extract 0 p) ∧ Both w wr g gd s p) (fun _ i _ => len - (intOf i).toNat)
  case atStart => exact ⟨0, 0, Nat.zero_le _, rfl, by simp; rfl, ⟨ha0, by simpa using hd0, hgd⟩⟩
  case round =>
    obtain ⟨k, p, hk, rfl, rfl, hbo⟩ := hrel
    by_cases hlt : k < len
    · obtain ⟨b, o, d, n, rfl, hd, k0, k1⟩ := h k hlt
      have c0 : wr.cell? ⟨b, o + k * 2, none⟩ = some (.int .u8 d) := (hbo.ours.old.cell (World.block_lt_of_cell? w ⟨b, o + k * 2, none⟩ k0)).trans k0
      have c1 : wr.cell? ⟨b, o + k * 2 + 1, none⟩ = some (.int .u64 n) := (hbo.ours.old.cell (World.block_lt_of_cell? w ⟨b, o + k * 2 + 1, none⟩ k1)).trans k1
      have ea := add_flat b o (k * 2)
      clear k0 k1
      have hba := hbo.alloc (Obj.cells #[Value.int IntKind.u8 ↑d, Value.int IntKind.u64 ↑n] 30)
      have r0 := hba.docs.c0
      have r1 := hba.docs.c1
      have hp := hbo.ours.le
      clear h
      rcases (by omega : d % 3 = 0 ∨ d % 3 = 1 ∨ d % 3 = 2) with h3 | h3 | h3
      · have t0 : ((d : Int) % 3 == 0) = true := by rw [beq_iff_eq]; omega
        by_cases hn : p < s.size
        · go_upto_region 14 with (go_at_call 11; refine (rt_yes s p 1 _ hs (by omega)).mono ?_; rintro e w3 ⟨rfl, hb⟩)
          refine wp_gen (fun W => Mid w W g gd w3.heap.size wr.heap.size s p (p + 1) d n) (mid_of d n (p + 1) hbo hb) ?_
          clear hb hba r0 r1 c0 c1 ea
          intro W4 hm
          have a0 := cell_of_row _ _ 0 _ _ _ hm.act
          have hcv := fun (w : World) => conv_one w s[p]
          have hone := one_ext s p hn
          go_wp2_with (go_at_call 12; refine (byte_c hm.both.ours hn).mono ?_; rintro e w5 ⟨rfl, ha5, hg5⟩; have hpo := post_of hm ha5 hg5; clear hm; have q0 := hpo.next.c0; have q1 := hpo.next.c1; have q4 := hpo.z 0; have q5 := hpo.z 1; obtain ⟨v0, v1, q2, q3⟩ := hpo.some0; have q6 := hpo.lt; have q7 := hpo.next.lt)
          refine wp_gen (fun W => ∃ r, Tail w W g gd s r (p + 1)) ?_ ?_
          · obtain ⟨r, ht⟩ := hpo.tail
            exact ⟨r, by first | exact ht | exact ht.below ((Below.refl _ _).alloc (Nat.le_refl _) _) | exact ht.below (below_dn (Below.refl _ _) _)⟩
          clear a0 ha5 hg5 hpo q0 q1 q2 q3 q4 q5 q6 q7 hcv hone
          rintro W6 ⟨r, hb6⟩
          have x0 := hb6.docs.c0
          have x1 := hb6.docs.c1
          go_quiet ((first
            | (go_at_call 15; exact hb6.rest _)
            | (go_at_call 17; exact hb6.left _)
            | (go_at_call 16; exact hb6.at_ _)))
          go_wp2
          go_roundw
          case rel => exact ⟨k + 1, (p + 1), by omega, by go_num, by first | rfl | (rw [app_nil]), hb6.both _⟩
          case measure => simp [intOf]; omega
        · go_upto_region 14 with (go_at_call 11; refine (rt_no s p 1 _ hs (by omega) hp).mono ?_; rintro e w3 ⟨rfl, hb⟩)
          refine wp_gen (fun W => Mid w W g gd w3.heap.size wr.heap.size s p p d n) (mid_of d n p hbo hb) ?_
          clear hb hba r0 r1 c0 c1 ea
          intro W4 hm
          have a0 := cell_of_row _ _ 0 _ _ _ hm.act
          go_wp2_with (go_at_call 12; refine (byte_c_no hm.both.ours (by omega)).mono ?_; rintro e w5 ⟨rfl, ha5, hg5⟩; have hpo := post_of hm ha5 hg5; clear hm; have q0 := hpo.next.c0; have q1 := hpo.next.c1; have q4 := hpo.z 0; have q5 := hpo.z 1; obtain ⟨v0, v1, q2, q3⟩ := hpo.some0; have q6 := hpo.lt; have q7 := hpo.next.lt)
          refine wp_gen (fun W => ∃ r, Tail w W g gd s r p) ?_ ?_
          · obtain ⟨r, ht⟩ := hpo.tail
            exact ⟨r, by first | exact ht | exact ht.below ((Below.refl _ _).alloc (Nat.le_refl _) _) | exact ht.below (below_dn (Below.refl _ _) _)⟩
          clear a0 ha5 hg5 hpo q0 q1 q2 q3 q4 q5 q6 q7
          rintro W6 ⟨r, hb6⟩
          have x0 := hb6.docs.c0
          have x1 := hb6.docs.c1
          go_quiet ((first
            | (go_at_call 15; exact hb6.rest _)
            | (go_at_call 17; exact hb6.left _)
            | (go_at_call 16; exact hb6.at_ _)))
          go_wp2
          go_roundw
          case rel => exact ⟨k + 1, p, by omega, by go_num, by first | rfl | (rw [app_nil]), hb6.both _⟩
          case measure => simp [intOf]; omega
      · have t0 : ((d : Int) % 3 == 0) = false := by rw [beq_eq_false_iff_ne]; omega
        have t1 : ((d : Int) % 3 == 1) = true := by rw [beq_iff_eq]; omega
        by_cases hn : p + n ≤ s.size
        · go_upto_region 14 with (go_at_call 11; refine (rt_yes s p n _ hs (by omega)).mono ?_; rintro e w3 ⟨rfl, hb⟩)
          refine wp_gen (fun W => Mid w W g gd w3.heap.size wr.heap.size s p (p + n) d n) (mid_of d n (p + n) hbo hb) ?_
          clear hb hba r0 r1 c0 c1 ea
          intro W4 hm
          have a0 := cell_of_row _ _ 0 _ _ _ hm.act
          go_wp2_with (go_at_call 13; refine (take_c hm.both.ours (n := n) (by omega)).mono ?_; rintro e w5 ⟨rfl, ha5, hg5⟩; have hpo := post_of hm ha5 hg5; clear hm; have q0 := hpo.next.c0; have q1 := hpo.next.c1; have q4 := hpo.z 0; have q5 := hpo.z 1; obtain ⟨v0, v1, q2, q3⟩ := hpo.some0; have q6 := hpo.lt; have q7 := hpo.next.lt)
          refine wp_gen (fun W => ∃ r, Tail w W g gd s r (p + n)) ?_ ?_
          · obtain ⟨r, ht⟩ := hpo.tail
            exact ⟨r, by first | exact ht | exact ht.below ((Below.refl _ _).alloc (Nat.le_refl _) _) | exact ht.below (below_dn (Below.refl _ _) _)⟩
          clear a0 ha5 hg5 hpo q0 q1 q2 q3 q4 q5 q6 q7
          rintro W6 ⟨r, hb6⟩
          have x0 := hb6.docs.c0
          have x1 := hb6.docs.c1
          go_quiet ((first
            | (go_at_call 15; exact hb6.rest _)
            | (go_at_call 17; exact hb6.left _)
            | (go_at_call 16; exact hb6.at_ _)))
          go_wp2
          go_roundw
          case rel => exact ⟨k + 1, (p + n), by omega, by go_num, by first | rfl | (rw [app_nil]), hb6.both _⟩
          case measure => simp [intOf]; omega
        · go_upto_region 14 with (go_at_call 11; refine (rt_no s p n _ hs (by omega) hp).mono ?_; rintro e w3 ⟨rfl, hb⟩)
          refine wp_gen (fun W => Mid w W g gd w3.heap.size wr.heap.size s p p d n) (mid_of d n p hbo hb) ?_
          clear hb hba r0 r1 c0 c1 ea
          intro W4 hm
          have a0 := cell_of_row _ _ 0 _ _ _ hm.act
          go_wp2_with (go_at_call 13; refine (take_c_no hm.both.ours (n := n) (by omega)).mono ?_; rintro e w5 ⟨rfl, ha5, hg5⟩; have hpo := post_of hm ha5 hg5; clear hm; have q0 := hpo.next.c0; have q1 := hpo.next.c1; have q4 := hpo.z 0; have q5 := hpo.z 1; obtain ⟨v0, v1, q2, q3⟩ := hpo.some0; have q6 := hpo.lt; have q7 := hpo.next.lt)
          refine wp_gen (fun W => ∃ r, Tail w W g gd s r p) ?_ ?_
          · obtain ⟨r, ht⟩ := hpo.tail
            exact ⟨r, by first | exact ht | exact ht.below ((Below.refl _ _).alloc (Nat.le_refl _) _) | exact ht.below (below_dn (Below.refl _ _) _)⟩
          clear a0 ha5 hg5 hpo q0 q1 q2 q3 q4 q5 q6 q7
          rintro W6 ⟨r, hb6⟩
          have x0 := hb6.docs.c0
          have x1 := hb6.docs.c1
          go_quiet ((first
            | (go_at_call 15; exact hb6.rest _)
            | (go_at_call 17; exact hb6.left _)
            | (go_at_call 16; exact hb6.at_ _)))
          go_wp2
          go_roundw
          case rel => exact ⟨k + 1, p, by omega, by go_num, by first | rfl | (rw [app_nil]), hb6.both _⟩
          case measure => simp [intOf]; omega
      · have t0 : ((d : Int) % 3 == 0) = false := by rw [beq_eq_false_iff_ne]; omega
        have t1 : ((d : Int) % 3 == 1) = false := by rw [beq_eq_false_iff_ne]; omega
        by_cases hn : p + n ≤ s.size
        · go_upto_region 14 with (go_at_call 11; refine (rt_yes s p n _ hs (by omega)).mono ?_; rintro e w3 ⟨rfl, hb⟩)
          refine wp_gen (fun W => Mid w W g gd w3.heap.size wr.heap.size s p (p + n) d n) (mid_of d n (p + n) hbo hb) ?_
          clear hb hba r0 r1 c0 c1 ea
          intro W4 hm
          have a0 := cell_of_row _ _ 0 _ _ _ hm.act
          have hts : (s.extract p (p + n)).size ≤ 9223372036854775807 := by simp; omega
          have HTS := Lib.hid hts
          clear hts
          go_wp2_with (first
            | (go_at_call 14; refine (sub_c hm.both.ours (n := n) (by omega)).mono ?_; rintro e w5 ⟨g2, rfl, hs5, ha5, hg5⟩; have hpo := post_of hm ha5 hg5; clear hm; have q0 := hpo.next.c0; have q1 := hpo.next.c1; have q4 := hpo.z 0; have q5 := hpo.z 1; obtain ⟨v0, v1, q2, q3⟩ := hpo.some0; have q6 := hpo.lt; have q7 := hpo.next.lt)
            | (go_at_call 15; refine (sub_rest hs5.cur HTS.out).mono ?_; rintro e w6 ⟨rfl, m1, rfl⟩)
            | (go_at_call 16; refine (sub_at (hs5.cur.drewN m1)).mono ?_; rintro e w6 ⟨rfl, rfl⟩)
            | (go_at_call 17; refine (sub_left (hs5.cur.drewN m1) HTS.out).mono ?_; rintro e w6 ⟨rfl, m2, rfl⟩))
          refine wp_gen (fun W => ∃ r, Tail w W g gd s r (p + n)) ?_ ?_
          · obtain ⟨r, ht⟩ := hpo.tail
            exact ⟨r, by first | exact ht | exact ht.below ((Below.refl _ _).alloc (Nat.le_refl _) _) | exact ht.below (below_dn (Below.refl _ _) _)⟩
          clear a0 ha5 hg5 hpo q0 q1 q2 q3 q4 q5 q6 q7 hs5
          rintro W6 ⟨r, hb6⟩
          have x0 := hb6.docs.c0
          have x1 := hb6.docs.c1
          go_quiet ((first
            | (go_at_call 15; exact hb6.rest _)
            | (go_at_call 17; exact hb6.left _)
            | (go_at_call 16; exact hb6.at_ _)))
          go_wp2
          go_roundw
          case rel => exact ⟨k + 1, (p + n), by omega, by go_num, by first | rfl | (rw [app_nil]), hb6.both _⟩
          case measure => simp [intOf]; omega
        · go_upto_region 14 with (go_at_call 11; refine (rt_no s p n _ hs (by omega) hp).mono ?_; rintro e w3 ⟨rfl, hb⟩)
          refine wp_gen (fun W => Mid w W g gd w3.heap.size wr.heap.size s p p d n) (mid_of d n p hbo hb) ?_
          clear hb hba r0 r1 c0 c1 ea
          intro W4 hm
          have a0 := cell_of_row _ _ 0 _ _ _ hm.act
          go_wp2_with (first
            | (go_at_call 14; refine (sub_c_no hm.both.ours (n := n) (by omega)).mono ?_; rintro e w5 ⟨rfl, ha5, hg5⟩; have hpo := post_of hm ha5 hg5; clear hm; have q0 := hpo.next.c0; have q1 := hpo.next.c1; have q4 := hpo.z 0; have q5 := hpo.z 1; obtain ⟨v0, v1, q2, q3⟩ := hpo.some0; have q6 := hpo.lt; have q7 := hpo.next.lt)
            | (go_at_call 15; refine (rest_nil _).mono ?_; rintro e w6 ⟨rfl, rfl⟩)
            | (go_at_call 16; refine (at_nil _).mono ?_; rintro e w6 ⟨rfl, rfl⟩)
            | (go_at_call 17; refine (left_nil _).mono ?_; rintro e w6 ⟨rfl, rfl⟩))
          refine wp_gen (fun W => ∃ r, Tail w W g gd s r p) ?_ ?_
          · obtain ⟨r, ht⟩ := hpo.tail
            exact ⟨r, by first | exact ht | exact ht.below ((Below.refl _ _).alloc (Nat.le_refl _) _) | exact ht.below (below_dn (Below.refl _ _) _)⟩
          clear a0 ha5 hg5 hpo q0 q1 q2 q3 q4 q5 q6 q7
          rintro W6 ⟨r, hb6⟩
          have x0 := hb6.docs.c0
          have x1 := hb6.docs.c1
          go_quiet ((first
            | (go_at_call 15; exact hb6.rest _)
            | (go_at_call 17; exact hb6.left _)
            | (go_at_call 16; exact hb6.at_ _)))
          go_wp2
          go_roundw
          case rel => exact ⟨k + 1, p, by omega, by go_num, by first | rfl | (rw [app_nil]), hb6.both _⟩
          case measure => simp [intOf]; omega
    · clear h
      go_wp2_with (go_at_call 15; refine (rest_c hbo.ours).mono ?_; rintro e w3 ⟨rfl, ha3, _⟩)
      go_ret
      exact ⟨rfl, ha3.old⟩
theorem takes_any (s : ByteArray) (A : Option Addr) (len cap : Nat) (w : World) (hs : s.size ≤ 140737488351232) (hl : len ≤ 9223372036854775807) (h : Acts w A len) :
    Calls Try.prog 3 #[.string s, .slice A len cap] w fun e w' => e = .returned (.bool true) ∧ Below w.heap.size w w' := by
  by_cases hc : 2000 < s.size ∨ 60 < len
  · exact takes_far s A len cap w (by omega) hl hc
  · exact takes_near s A len cap w (by omega) (by omega) h
end Go.Proofs.Ytmgjeoemnmcjoaa
