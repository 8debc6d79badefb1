/-
  The document's All, walked: the plain readL. For texts of at most 2,000 bytes.
-/
import Derived.Test.YtmgjeoemnmcjoaaHRGet
import Derived.Test.YtmgjeoemnmcjoaaAll
namespace Go.Proofs.Ytmgjeoemnmcjoaa
open Go.RowKit

/-- The state at a round's head: x is left of the text, the numbers xs have been read into v. -/
structure RAllS (w W : World) (R : List Nat × Nat) (f : Nat) (x : ByteArray) (xs : List Nat) (v : Value) : Prop where
  own : W.ownsRow w.heap.size 28 1 v xs.length (u64s xs)
  old : Below w.heap.size w W
  left : x.size < f
  len : xs.length + x.size ≤ 2000
  res : readL f xs (bytesL x) = R
set_option maxRecDepth 100000 in
set_option maxHeartbeats 4000000 in
theorem rall_any (s : ByteArray) (w : World) (hs : s.size ≤ 2000) (R : List Nat × Nat) (hR : readL (s.size + 1) [] (bytesL s) = R) :
    Calls Try.prog 34 #[.string s] w (AllP w R) := by
  obtain ⟨i0, hi, hz0, hz1, hz2⟩ := info_parts Try.info28
  have h0 : RAllS w w R (s.size + 1) s [] (.slice none 0 0) := ⟨own_nil _ _, Below.refl _ _, by omega, by simp; omega, hR⟩
  have HI := Lib.hid hi
  have HZ0 := Lib.hid hz0
  have HZ1 := Lib.hid hz1
  have HZ2 := Lib.hid hz2
  clear hR hi hz0 hz1 hz2
  go_enter Try.func34, Try.ntmps34
  go_wp2
  go_loopg [0, 4] (s.size + 1) (fun gk v0 v4 wr => ∃ (x : ByteArray) (xs : List Nat), v0 = .string x ∧ RAllS w wr R gk x xs v4)
  case atStart => exact ⟨s, [], rfl, h0⟩
  case round =>
    obtain ⟨x, xs, rfl, hst⟩ := hrel
    clear h0
    cases gk with
    | zero => have := hst.left; omega
    | succ f =>
      have hlen := hst.len
      have hsz := hst.old.size
      have hxs : x.size ≤ 9223372036854775807 := by omega
      by_cases hp : 0 < x.size
      · have hne : bytesL x ≠ [] := by
          intro h0
          have := bytesL_len x
          rw [h0] at this
          simp at this
          omega
        have hres := hst.res
        obtain ⟨n, m, e, hL⟩ : ∃ n m e, getL (bytesL x) = (n, m, e) := ⟨_, _, _, rfl⟩
        have hgl := get_le _ (bytesL_byte x)
        rw [bytesL_len, hL] at hgl
        simp only at hgl
        have hgt : ∀ w, Calls Try.prog 32 #[.string x] w fun e' w' => e' = .returned (.tuple #[.int .u64 n, .int .i64 m, .int .i64 e]) ∧ Below w.heap.size w w' := by
          intro w
          have h1 := rget_hand x w hxs
          rw [hL] at h1
          exact h1
        by_cases he : e = 0
        · subst he
          have hpos := get_pos _ (bytesL_byte x) (by rw [hL])
          rw [hL] at hpos
          simp only at hpos
          have hd : bytesL (x.extract m x.size) = (bytesL x).drop m := by
            rw [bytesL_extract, List.take_of_length_le (by rw [bytesL_len]; exact Nat.le_refl _)]
          have hdz : (x.extract m x.size).size = x.size - m := by rw [← bytesL_len, hd, List.length_drop, bytesL_len]
          rw [readL_ok f xs _ hne (by rw [hL]), hL, ← hd] at hres
          have HRES := Lib.hid hres
          have HDZ := Lib.hid hdz
          clear hres hL hne hd hdz
          go_wp2_with (first
            | (go_at_call 32; refine (hgt _).mono ?_; rintro e w3 ⟨rfl, h3⟩; have o3 := own_below hst.own h3; have b3 := below_then2 hst.old h3)
            | (at_builtin; refine wpList_append_own _ rfl _ _ 48 rfl w.heap.size 28 i0 (.int .u64 0) 1 8 Try.underlying48 HI.out HZ0.out HZ1.out HZ2.out rfl (by decide) _ _ _ rfl (o3.alloc _) ⟨w3.heap.size, 0, none⟩ 1 1 [.int .u64 n] rfl rfl ?c1 ?c2 ?c3 ?c4 ?c5 ?_; (case c1 => intro j u hj; cases j with | zero => (rw [add_zero_flat]; simpa using hj) | succ j => simp at hj); (case c2 => simp [Value.oneCell']); (case c3 => unfold maxLen; omega); (case c4 => omega); (case c5 => have := b3.size; simp; omega); intro v' w4 ho hg _; have b4 := (b3.alloc b3.size _).grown hg (by have := b3.size; simp; omega) (own_lt o3); have o4 := own_snoc ho; clear ho hg))
          go_roundg f
          case measure => omega
          case rel => exact ⟨x.extract m x.size, xs ++ [n], rfl, o4, b4, by rw [HDZ.out]; have := hst.left; omega, by rw [HDZ.out]; simp; omega, HRES.out⟩
        · rw [readL_err f xs _ hne (by rw [hL]; exact he), hL] at hres
          have HRES := Lib.hid hres
          have he1 : ((e : Int) != 0) = true := by rw [bne_iff_ne]; omega
          clear hres hL hne he
          go_wp2_with (go_at_call 32; refine (hgt _).mono ?_; rintro e w3 ⟨rfl, h3⟩)
          go_ret2
          rw [← HRES.out]
          exact ⟨_, rfl, own_nil _ _, below_then2 hst.old h3⟩
      · have hnil : bytesL x = [] := List.eq_nil_of_length_eq_zero (by rw [bytesL_len]; omega)
        have hres := hst.res
        rw [hnil, readL_nil] at hres
        have HRES := Lib.hid hres
        clear hres hnil
        go_wp2
        go_ret2
        rw [← HRES.out]
        exact ⟨_, rfl, hst.own, hst.old⟩
end Go.Proofs.Ytmgjeoemnmcjoaa
