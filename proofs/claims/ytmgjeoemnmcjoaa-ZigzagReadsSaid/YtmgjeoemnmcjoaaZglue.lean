/-
  What the functions of zigzag and the document's answer, out of their printed functions: the plain zz, bk, putL, getL.
-/
import Derived.Test.YtmgjeoemnmcjoaaRZigzagReads
import Derived.Test.YtmgjeoemnmcjoaaZig
namespace Go.Proofs.Ytmgjeoemnmcjoaa.GZigzagReads
open Go.RowKit Go.Proofs.YtmgjeoemnmcjoaaW.PrintWords Go.Proofs.YtmgjeoemnmcjoaaW.PrintLast Go.Proofs.YtmgjeoemnmcjoaaW.PrintMore Go.Proofs.Ytmgjeoemnmcjoaa.PZigzagReads

def I64 (a : Int) : Prop := -9223372036854775808 ≤ a ∧ a ≤ 9223372036854775807
theorem map_f (a : Int) (h : I64 a) : zigzag_Map.f a = some (zz a : Int) := by
  unfold zigzag_Map.f
  rw [map_eq a h.1 h.2]
theorem rmap_f (a : Int) (h : I64 a) : postmarkref03_Map.f a = some (zz a : Int) := by
  unfold postmarkref03_Map.f
  by_cases h0 : 0 ≤ a
  · rw [if_pos h0, rmap_pos a h0 h.2]
  · rw [if_neg h0, rmap_neg a h.1 (by omega)]
theorem back_f (z : Nat) (h : z < 2 ^ 64) : zigzag_Back.f (z : Int) = some (bk z) := by
  unfold zigzag_Back.f
  rw [back_eq z h]
theorem rback_f (z : Nat) (h : z < 2 ^ 64) : postmarkref03_Back.f (z : Int) = some (bk z) := by
  unfold postmarkref03_Back.f
  have e : Int.tmod (z : Int) 2 = ((z % 2 : Nat) : Int) := by rw [Int.tmod_eq_emod_of_nonneg (Int.natCast_nonneg _)]; simp
  rw [e]
  by_cases h2 : z % 2 = 0
  · rw [if_pos (by omega), rback_even z h h2]
  · rw [if_neg (by omega), rback_odd z h h2]
/-- What both Gets of zigzag tell. -/
def zgetL (l : List Nat) : Int × Nat × Nat := (bk (getL l).1, (getL l).2.1, (getL l).2.2)
theorem zget_f (s : ByteArray) : zigzag_Get.f 20 s = some ((zgetL (bytesL s)).1, ((zgetL (bytesL s)).2.1 : Int), ((zgetL (bytesL s)).2.2 : Int)) := by
  unfold zigzag_Get.f
  rw [get_f s]
  simp only [Option.bind_some, tri]
  rw [back_f _ (get_lt (bytesL s) (bytesL_byte s))]
  rfl
theorem rzget_f (s : ByteArray) : postmarkref03_Get.f 60 s = some ((zgetL (bytesL s)).1, ((zgetL (bytesL s)).2.1 : Int), ((zgetL (bytesL s)).2.2 : Int)) := by
  unfold postmarkref03_Get.f
  rw [rget_f s]
  simp only [Option.bind_some, tri]
  by_cases h : (getL (bytesL s)).2.2 = 0
  · rw [if_pos (by omega), rback_f _ (get_lt (bytesL s) (bytesL_byte s))]
    simp only [Option.bind_some, zgetL]
    rw [h]
    rfl
  · rw [if_neg (by omega)]
    have h3 := get_err (bytesL s) h
    have e1 : (getL (bytesL s)).1 = 0 := by rw [h3]
    have e2 : (getL (bytesL s)).2.1 = 0 := by rw [h3]
    simp only [zgetL]
    rw [e1, e2]
    rfl
theorem zput_f (a : Int) (h : I64 a) : zigzag_Put.f 10 a = some (strL (putL (zz a))) := by
  unfold zigzag_Put.f
  rw [map_f a h]
  simp only [Option.bind_some]
  rw [put_f (zz a) (zz_lt a h.1 h.2)]
  rfl

theorem map_c (a : Int) (h : I64 a) (w : World) : Calls Try.prog 26 #[.int .i64 a] w fun e w' => e = .returned (.int .u64 (zz a : Int)) ∧ Below w.heap.size w w' :=
  (zigzag_Map.calls a _ w (map_f a h)).mono fun _ _ ⟨he, hd⟩ => ⟨he, hd.below⟩
theorem rmap_c (a : Int) (h : I64 a) (w : World) : Calls Try.prog 27 #[.int .i64 a] w fun e w' => e = .returned (.int .u64 (zz a : Int)) ∧ Below w.heap.size w w' :=
  (postmarkref03_Map.calls a _ w (rmap_f a h)).mono fun _ _ ⟨he, hd⟩ => ⟨he, hd.below⟩
theorem back_c (z : Nat) (h : z < 2 ^ 64) (w : World) : Calls Try.prog 28 #[.int .u64 z] w fun e w' => e = .returned (.int .i64 (bk z)) ∧ Below w.heap.size w w' :=
  (zigzag_Back.calls z _ w (back_f z h)).mono fun _ _ ⟨he, hd⟩ => ⟨he, hd.below⟩
theorem rback_c (z : Nat) (h : z < 2 ^ 64) (w : World) : Calls Try.prog 29 #[.int .u64 z] w fun e w' => e = .returned (.int .i64 (bk z)) ∧ Below w.heap.size w w' :=
  (postmarkref03_Back.calls z _ w (rback_f z h)).mono fun _ _ ⟨he, hd⟩ => ⟨he, hd.below⟩
theorem zget_c (s : ByteArray) (w : World) : Calls Try.prog 23 #[.string s] w fun e w' => e = .returned (.tuple #[.int .i64 (zgetL (bytesL s)).1, .int .i64 ((zgetL (bytesL s)).2.1 : Int), .int .i64 ((zgetL (bytesL s)).2.2 : Int)]) ∧ Below w.heap.size w w' :=
  zigzag_Get.calls 20 s _ _ _ w (zget_f s)
theorem rzget_c (s : ByteArray) (w : World) : Calls Try.prog 24 #[.string s] w fun e w' => e = .returned (.tuple #[.int .i64 (zgetL (bytesL s)).1, .int .i64 ((zgetL (bytesL s)).2.1 : Int), .int .i64 ((zgetL (bytesL s)).2.2 : Int)]) ∧ Below w.heap.size w w' :=
  (postmarkref03_Get.calls 60 s _ _ _ w (rzget_f s)).mono fun _ _ ⟨he, hd⟩ => ⟨he, hd.below⟩
theorem zput_c (a : Int) (h : I64 a) (w : World) : Calls Try.prog 30 #[.int .i64 a] w fun e w' => e = .returned (.string (strL (putL (zz a)))) ∧ Below w.heap.size w w' :=
  zigzag_Put.calls 10 a _ w (zput_f a h)
end Go.Proofs.Ytmgjeoemnmcjoaa.GZigzagReads
