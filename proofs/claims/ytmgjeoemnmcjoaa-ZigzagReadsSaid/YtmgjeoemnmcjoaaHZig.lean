/-
  The functions of zigzag and of the document's answer, walked: the plain zz, bk, putL, getL.
-/
import Derived.Test.YtmgjeoemnmcjoaaZig
import Derived.Test.YtmgjeoemnmcjoaaHGet
import Derived.Test.YtmgjeoemnmcjoaaHPut
import Derived.Test.YtmgjeoemnmcjoaaHRPut
import Derived.Test.YtmgjeoemnmcjoaaHRGet
namespace Go.Proofs.Ytmgjeoemnmcjoaa
open Go.RowKit

def I64 (a : Int) : Prop := -9223372036854775808 ≤ a ∧ a ≤ 9223372036854775807
theorem ret_u64 {a b : Int} (h : a = b) : Ending.returned (.int .u64 a) = .returned (.int .u64 b) := by rw [h]
theorem ret_i64 {a b : Int} (h : a = b) : Ending.returned (.int .i64 a) = .returned (.int .i64 b) := by rw [h]
set_option maxHeartbeats 1000000 in
theorem map_hand (a : Int) (h : I64 a) (w : World) : Calls Try.prog 26 #[.int .i64 a] w fun e w' => e = .returned (.int .u64 (zz a : Int)) ∧ w' = w := by
  have H := Lib.hid h
  clear h
  go_enter Try.func26, Try.ntmps26
  go_wp2
  go_ret
  exact ⟨ret_u64 (map_eq a H.out.1 H.out.2), rfl⟩
set_option maxHeartbeats 1000000 in
theorem back_hand (z : Nat) (h : z < 2 ^ 64) (w : World) : Calls Try.prog 28 #[.int .u64 z] w fun e w' => e = .returned (.int .i64 (bk z)) ∧ w' = w := by
  have H := Lib.hid h
  clear h
  go_enter Try.func28, Try.ntmps28
  go_wp2
  go_ret
  exact ⟨ret_i64 (back_eq z H.out), rfl⟩
theorem half_even (z : Nat) (h : z < 2 ^ 64) (h2 : z % 2 = 0) : wrap64 (IntKind.u64.wrap ((z : Int) / 2)) = bk z := by
  have := rback_even z h h2
  rwa [Int.tdiv_eq_ediv_of_nonneg (Int.natCast_nonneg _)] at this
theorem half_odd (z : Nat) (h : z < 2 ^ 64) (h2 : ¬ z % 2 = 0) : wrap64 ((wrap64 (-(wrap64 (IntKind.u64.wrap ((z : Int) / 2))))) - 1) = bk z := by
  have := rback_odd z h h2
  rwa [Int.tdiv_eq_ediv_of_nonneg (Int.natCast_nonneg _)] at this
set_option maxHeartbeats 1000000 in
theorem rback_hand (z : Nat) (h : z < 2 ^ 64) (w : World) : Calls Try.prog 29 #[.int .u64 z] w fun e w' => e = .returned (.int .i64 (bk z)) ∧ w' = w := by
  by_cases h2 : z % 2 = 0
  · have b : ((z : Int) % 2 == 0) = true := by rw [beq_iff_eq]; omega
    have H := Lib.hid (half_even z h h2)
    clear h h2
    go_enter Try.func29, Try.ntmps29
    go_wp2
    go_ret
    exact ⟨ret_i64 H.out, rfl⟩
  · have b : ((z : Int) % 2 == 0) = false := by rw [beq_eq_false_iff_ne]; omega
    have H := Lib.hid (half_odd z h h2)
    clear h h2
    go_enter Try.func29, Try.ntmps29
    go_wp2
    go_ret
    exact ⟨ret_i64 H.out, rfl⟩
set_option maxHeartbeats 1000000 in
theorem rmap_hand (a : Int) (h : I64 a) (w : World) : Calls Try.prog 27 #[.int .i64 a] w fun e w' => e = .returned (.int .u64 (zz a : Int)) ∧ w' = w := by
  by_cases h0 : 0 ≤ a
  · have H := Lib.hid (rmap_pos a h0 h.2)
    clear h
    go_enter Try.func27, Try.ntmps27
    go_wp2
    go_ret
    exact ⟨ret_u64 H.out, rfl⟩
  · have h1 : a < 0 := by omega
    have H := Lib.hid (rmap_neg a h.1 h1)
    clear h h0
    go_enter Try.func27, Try.ntmps27
    go_wp2
    go_ret
    exact ⟨ret_u64 H.out, rfl⟩
/-- What both Gets of zigzag tell. -/
def zgetL (l : List Nat) : Int × Nat × Nat := (bk (getL l).1, (getL l).2.1, (getL l).2.2)
set_option maxHeartbeats 1000000 in
theorem zget_hand (s : ByteArray) (w : World) : Calls Try.prog 23 #[.string s] w fun e w' => e = .returned (.tuple #[.int .i64 (zgetL (bytesL s)).1, .int .i64 ((zgetL (bytesL s)).2.1 : Int), .int .i64 ((zgetL (bytesL s)).2.2 : Int)]) ∧ Below w.heap.size w w' := by
  have hg := get_hand s
  have hb := back_hand (getL (bytesL s)).1 (get_lt (bytesL s) (bytesL_byte s))
  unfold zgetL
  simp only
  generalize (getL (bytesL s)).1 = n at hg hb ⊢
  generalize (getL (bytesL s)).2.1 = m at hg ⊢
  generalize (getL (bytesL s)).2.2 = c at hg ⊢
  generalize bk n = b at hb ⊢
  go_enter Try.func23, Try.ntmps23
  go_wp2_with (first
    | (go_at_call 20; refine (hg _).mono ?_; rintro e w1 ⟨rfl, rfl⟩)
    | (go_at_call 28; refine (hb _).mono ?_; rintro e w2 ⟨rfl, rfl⟩))
  go_ret3
  exact ⟨rfl, Below.refl _ _⟩
set_option maxHeartbeats 1000000 in
theorem rzget_hand (s : ByteArray) (w : World) (hs : s.size ≤ 9223372036854775807) : Calls Try.prog 24 #[.string s] w fun e w' => e = .returned (.tuple #[.int .i64 (zgetL (bytesL s)).1, .int .i64 ((zgetL (bytesL s)).2.1 : Int), .int .i64 ((zgetL (bytesL s)).2.2 : Int)]) ∧ Below w.heap.size w w' := by
  have hg := fun w => rget_walk s w _ hs rfl
  have hb := rback_hand (getL (bytesL s)).1 (get_lt (bytesL s) (bytesL_byte s))
  have herr := get_err (bytesL s)
  unfold zgetL
  simp only
  obtain ⟨n, m, c, hL⟩ : ∃ n m c, getL (bytesL s) = (n, m, c) := ⟨_, _, _, rfl⟩
  rw [hL] at hg hb herr ⊢
  simp only at hg hb herr ⊢
  clear hL
  by_cases h0 : c = 0
  · subst h0
    generalize bk n = b at hb ⊢
    clear herr
    go_enter Try.func24, Try.ntmps24
    go_wp2_with (first
      | (go_at_call 32; refine (hg _).mono ?_; rintro e w1 ⟨rfl, rfl⟩)
      | (go_at_call 29; refine (hb _).mono ?_; rintro e w2 ⟨rfl, rfl⟩))
    go_ret3
    exact ⟨rfl, Below.refl _ _⟩
  · have h1 := herr h0
    simp only [Prod.mk.injEq] at h1
    obtain ⟨rfl, rfl, _⟩ := h1
    have he : ((c : Int) != 0) = true := by rw [bne_iff_ne]; omega
    clear herr h0 hb
    go_enter Try.func24, Try.ntmps24
    go_wp2_with (go_at_call 32; refine (hg _).mono ?_; rintro e w1 ⟨rfl, rfl⟩)
    go_ret3
    exact ⟨rfl, Below.refl _ _⟩
set_option maxHeartbeats 1000000 in
theorem zput_hand (a : Int) (h : I64 a) (w : World) : Calls Try.prog 30 #[.int .i64 a] w fun e w' => e = .returned (.string (strL (putL (zz a)))) ∧ Below w.heap.size w w' := by
  have hm := map_hand a h
  have hp := put_hand (zz a) (zz_lt a h.1 h.2)
  clear h
  generalize zz a = z at hm hp ⊢
  go_enter Try.func30, Try.ntmps30
  go_wp2_with (first
    | (go_at_call 26; refine (hm _).mono ?_; rintro e w1 ⟨rfl, rfl⟩)
    | (go_at_call 19; refine (hp _).mono ?_; rintro e w2 ⟨rfl, h2⟩))
  go_ret
  exact ⟨rfl, h2⟩
theorem same_below {f : FuncId} {args : Array Value} {w : World} {v : Value} (h : Calls Try.prog f args w fun e w' => e = .returned v ∧ w' = w) : Calls Try.prog f args w fun e w' => e = .returned v ∧ Below w.heap.size w w' :=
  h.mono fun _ _ ⟨he, hw⟩ => ⟨he, by rw [hw]; exact Below.refl _ _⟩
end Go.Proofs.Ytmgjeoemnmcjoaa
