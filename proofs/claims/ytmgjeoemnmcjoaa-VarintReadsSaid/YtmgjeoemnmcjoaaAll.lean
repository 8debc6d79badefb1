/-
  varint.All: the numbers of a text, in a slice of the call's own, or none and the first error. For texts of at most 2,000 bytes.
-/
import Derived.Test.YtmgjeoemnmcjoaaNextKeep
import Derived.Test.YtmgjeoemnmcjoaaEqual
import Derived.Test.YtmgjeoemnmcjoaaReadL
import Derived.Deep.LoopGhost
import Derived.Laws.AppendOwn
import Derived.OwnWalk
namespace Go.Proofs.Ytmgjeoemnmcjoaa
open Go.RowKit

/-- What 'All' answers. -/
def AllP (w : World) (R : List Nat × Nat) (e : Ending) (w' : World) : Prop :=
  ∃ v, e = .returned (.tuple #[v, .int .i64 (R.2 : Int)]) ∧ w'.ownsRow w.heap.size 28 1 v R.1.length (u64s R.1) ∧ Below w.heap.size w w'
/-- The state at a round's head: the cursor at p, the numbers xs having been read into v. -/
structure AllS (w W : World) (g : Nat) (s : ByteArray) (R : List Nat × Nat) (f p : Nat) (xs : List Nat) (v : Value) : Prop where
  cur : At w.heap.size w W g s p
  own : W.ownsRow w.heap.size 28 1 v xs.length (u64s xs)
  left : s.size - p < f
  len : xs.length ≤ p
  res : readL f xs ((bytesL s).drop p) = R
theorem own_nil (w : World) (b : Nat) : w.ownsRow b 28 1 (.slice none 0 0) 0 (u64s []) := ⟨rfl, .inl ⟨rfl, rfl⟩⟩
theorem own_block_ne {w : World} {b n : Nat} {v : Value} {xs : List Value} (h : w.ownsRow b 28 1 v n xs) {g : Nat} {s : ByteArray} {a : Nat} (hc : Cur w g s a) : v.ownBlock ≠ some g := by
  rcases h.2 with ⟨rfl, _⟩ | ⟨g', cap, cur, rfl, _, hb, _⟩
  · simp [Value.ownBlock]
  · intro e
    simp [Value.ownBlock] at e
    subst e
    have := hb.symm.trans hc
    simp at this
theorem At.grown {B : Nat} {w0 w w' : World} {g : Nat} {s : ByteArray} {a : Nat} (h : At B w0 w g s a) {row : Option Nat} (hg : w.grownBy w' row) (hne : some g ≠ row) (hr : ∀ k, row = some k → B ≤ k) : At B w0 w' g s a :=
  ⟨(hg.block g h.cur.lt hne).trans h.cur, h.base, h.le, h.small, h.old.grown hg (by have := h.cur.lt; have := h.base; omega) hr⟩
theorem own_lt {w : World} {b n : Nat} {v : Value} {xs : List Value} (h : w.ownsRow b 28 1 v n xs) : ∀ k, v.ownBlock = some k → b ≤ k := fun k hk => (h.lt k hk).1
theorem own_snoc {w : World} {b : Nat} {v : Value} {xs : List Nat} {n : Nat} (h : w.ownsRow b 28 1 v (xs.length + 1) (u64s xs ++ [Value.int .u64 (n : Int)])) : w.ownsRow b 28 1 v (xs ++ [n]).length (u64s (xs ++ [n])) := by
  have e1 : (xs ++ [n]).length = xs.length + 1 := by simp
  have e2 : u64s (xs ++ [n]) = u64s xs ++ [Value.int .u64 (n : Int)] := by simp [u64s]
  rw [e1, e2]
  exact h
theorem At.push {B : Nat} {w0 w w' : World} {g : Nat} {s : ByteArray} {a : Nat} {o : Obj} {v : Value} {n : Nat} {xs : List Value} (h : At B w0 w g s a) (ho : w.ownsRow B 28 1 v n xs) (hg : (w.alloc o).grownBy w' v.ownBlock) : At B w0 w' g s a :=
  (h.below ((Below.refl _ _).alloc (Nat.le_refl _) o)).grown hg (fun e => own_block_ne ho h.cur e.symm) (own_lt ho)
theorem own_below {w w' : World} {b n : Nat} {v : Value} {xs : List Value} (h : w.ownsRow b 28 1 v n xs) (hb : Below w.heap.size w w') : w'.ownsRow b 28 1 v n xs :=
  h.kept (grown_below hb none) (by cases v.ownBlock <;> simp)
theorem Try.info28 : (Try.prog.info? 28).map (fun i => (i.zero, i.size, i.bytes)) = some (some (.int .u64 0), 1, 8) := by kernel_rfl

set_option maxRecDepth 100000 in
set_option maxHeartbeats 4000000 in
theorem all_any (hG : GetC) (s : ByteArray) (w : World) (hs : s.size ≤ 2000) (R : List Nat × Nat) (hR : readL (s.size + 1) [] (bytesL s) = R) :
    Calls Try.prog 33 #[.string s] w (AllP w R) := by
  obtain ⟨i0, hi, hz0, hz1, hz2⟩ := info_parts Try.info28
  have hB := Below.refl w.heap.size w
  have HR := Lib.hid hR
  have HI := Lib.hid hi
  have HZ0 := Lib.hid hz0
  have HZ1 := Lib.hid hz1
  have HZ2 := Lib.hid hz2
  clear hR hi hz0 hz1 hz2
  go_enter Try.func33, Try.ntmps33
  go_wp2_with (go_at_call 10; refine (over_c hB (Nat.le_refl _) s (by omega)).mono ?_; rintro e w1 ⟨g, rfl, h1, _⟩)
  go_loopg [4] (s.size + 1) (fun gk v4 wr => ∃ (p : Nat) (xs : List Nat), AllS w wr g s R gk p xs v4)
  case atStart => exact ⟨0, [], h1, own_nil _ _, by omega, by simp, by rw [List.drop_zero]; exact HR.out⟩
  case round =>
    obtain ⟨p, xs, hst⟩ := hrel
    clear h1
    cases gk with
    | zero => have := hst.left; omega
    | succ f =>
      have hat := hst.cur
      have hle := hat.le
      by_cases hp : p < s.size
      · have hne : (bytesL s).drop p ≠ [] := by
          intro h0
          have := congrArg List.length h0
          rw [List.length_drop, bytesL_len] at this
          simp at this
          omega
        have hbl : ∀ c ∈ (bytesL s).drop p, c < 256 := fun c hc => bytesL_byte s c (List.mem_of_mem_drop hc)
        have hres := hst.res
        obtain ⟨n, m, e, hL⟩ : ∃ n m e, getL ((bytesL s).drop p) = (n, m, e) := ⟨_, _, _, rfl⟩
        have hgl := get_le _ hbl
        rw [List.length_drop, bytesL_len, hL] at hgl
        simp only at hgl
        by_cases he : e = 0
        · subst he
          have hpos := get_pos _ hbl (by rw [hL])
          rw [hL] at hpos
          simp only at hpos
          rw [readL_ok f xs _ hne (by rw [hL]), hL, List.drop_drop] at hres
          have HRES := Lib.hid hres
          have HL := Lib.hid hL
          clear hres hL hbl hne
          go_wp2_with (first
            | (go_at_call 17; refine (left_c hat).mono ?_; rintro e w2 ⟨rfl, h2, g2⟩; have o2 := hst.own.kept g2 (.inr (own_block_ne hst.own hat.cur)))
            | (go_at_call 21; refine (next_keep hG h2 HL.out).mono ?_; rintro e w3 ⟨rfl, h3, g3⟩; have o3 := o2.kept g3 (.inr (own_block_ne o2 h2.cur)))
            | (at_builtin; refine wpList_append_own _ rfl _ _ 48 rfl w.heap.size 28 i0 (.int .u64 0) 1 8 Try.underlying48 HI.out HZ0.out HZ1.out HZ2.out rfl (by decide) _ _ _ rfl (o3.alloc _) ⟨w3.heap.size, 0, none⟩ 1 1 [.int .u64 n] rfl rfl ?c1 ?c2 ?c3 ?c4 ?c5 ?_; (case c1 => intro j u hj; cases j with | zero => (rw [add_zero_flat]; simpa using hj) | succ j => simp at hj); (case c2 => simp [Value.oneCell']); (case c3 => have := hst.len; unfold maxLen; omega); (case c4 => have := hst.len; omega); (case c5 => have := h3.old.size; simp; omega); intro v' w4 ho hg _; have h4 := h3.push o3 hg; have o4 := own_snoc ho; clear ho hg))
          go_roundg f
          case measure => omega
          case rel => exact ⟨p + m, xs ++ [n], h4, o4, by have := hst.left; omega, by have := hst.len; simp; omega, HRES.out⟩
        · rw [readL_err f xs _ hne (by rw [hL]; exact he), hL] at hres
          have HRES := Lib.hid hres
          have HL := Lib.hid hL
          have he1 : ((e : Int) != 0) = true := by rw [bne_iff_ne]; omega
          clear hres hL hbl hne he
          go_wp2_with (first
            | (go_at_call 17; refine (left_c hat).mono ?_; rintro x w2 ⟨rfl, h2, g2⟩)
            | (go_at_call 21; refine (next_keep hG h2 HL.out).mono ?_; rintro x w3 ⟨rfl, h3, g3⟩))
          go_ret2
          rw [← HRES.out]
          exact ⟨_, rfl, own_nil _ _, h3.old⟩
      · have hd : (bytesL s).drop p = [] := List.drop_eq_nil_of_le (by rw [bytesL_len]; omega)
        have hres := hst.res
        rw [hd, readL_nil] at hres
        have HRES := Lib.hid hres
        clear hres hd
        go_wp2_with (go_at_call 17; refine (left_c hat).mono ?_; rintro e w2 ⟨rfl, h2, g2⟩)
        go_ret2
        rw [← HRES.out]
        exact ⟨_, rfl, hst.own.kept g2 (.inr (own_block_ne hst.own hat.cur)), h2.old⟩
end Go.Proofs.Ytmgjeoemnmcjoaa
