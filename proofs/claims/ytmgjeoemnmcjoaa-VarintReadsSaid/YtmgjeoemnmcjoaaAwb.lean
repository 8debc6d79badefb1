/-
  The examples of chapter 2 hold, whatever the world, where Put and Get answer as the plain lists say.
-/
import Derived.Test.YtmgjeoemnmcjoaaAwa
import Derived.Test.YtmgjeoemnmcjoaaBits
namespace Go.Proofs.Ytmgjeoemnmcjoaa
open Go.RowKit

/-- varint.Put writes what the plain list says. -/
def PutC : Prop := ∀ (n : Nat), n < 2 ^ 64 → ∀ (w : World), Calls Try.prog 19 #[.int .u64 n] w fun e w' => e = .returned (.string (strL (putL n))) ∧ Below w.heap.size w w'
/-- varint.Get reads what the plain list says. -/
def GetC : Prop := ∀ (s : ByteArray) (w : World), Calls Try.prog 20 #[.string s] w fun e w' =>
    e = .returned (.tuple #[.int .u64 ((getL (bytesL s)).1 : Int), .int .i64 ((getL (bytesL s)).2.1 : Int), .int .i64 ((getL (bytesL s)).2.2 : Int)]) ∧ Below w.heap.size w w'

theorem below_then2 {w W W2 : World} (h : Below w.heap.size w W) (k : Below W.heap.size W W2) : Below w.heap.size w W2 := h.trans (k.mono h.size)
theorem put_300 : strL (putL 300) = ⟨#[172, 2]⟩ := by
  rw [putL_big (by decide), putL_small (by decide)]
  rfl
theorem get_ac : getL (bytesL ⟨#[172, 130, 0]⟩) = (0, 0, 2) := by decide
theorem awake2 (hP : PutC) (hG : GetC) (w : World) : Calls Try.prog 18 #[] w fun e w' => e = .returned (.bool true) ∧ Below w.heap.size w w' := by
  have hg : ∀ (w : World), Calls Try.prog 20 #[.string ⟨#[172, 130, 0]⟩] w fun e w' => e = .returned (.tuple #[.int .u64 0, .int .i64 0, .int .i64 2]) ∧ Below w.heap.size w w' := by
    intro w
    have h := hG ⟨#[172, 130, 0]⟩ w
    rw [get_ac] at h
    exact h
  have hp : ∀ (w : World), Calls Try.prog 19 #[.int .u64 300] w fun e w' => e = .returned (.string ⟨#[172, 2]⟩) ∧ Below w.heap.size w w' := by
    intro w
    have h := hP 300 (by decide) w
    rw [put_300] at h
    exact h
  clear hP hG
  go_enter Try.func18, Try.ntmps18
  go_wp2_with (first
    | (go_at_call 20; refine (hg _).mono ?_; rintro e w1 ⟨rfl, h1⟩)
    | (go_at_call 37; refine (awake1' _).mono ?_; rintro e w2 ⟨rfl, h2⟩)
    | (go_at_call 19; refine (hp _).mono ?_; rintro e w3 ⟨rfl, h3⟩))
  go_ret
  exact ⟨rfl, below_then2 (below_then2 h1 h2) h3⟩
theorem awake2' (hP : PutC) (hG : GetC) (w : World) : Calls Try.prog 38 #[] w fun e w' => e = .returned (.bool true) ∧ Below w.heap.size w w' := by
  go_enter Try.func38, Try.ntmps38
  go_wp2_with (go_at_call 18; refine (awake2 hP hG _).mono ?_; rintro e w1 ⟨rfl, h1⟩)
  go_ret
  exact ⟨rfl, h1⟩
end Go.Proofs.Ytmgjeoemnmcjoaa
