/-
  The example of chapter 1 holds, whatever the world: 'awake' and 'Awake' answer true and turn nothing that was there.
-/
import Derived.Test.YtmgjeoemnmcjoaaCur
namespace Go.Proofs.Ytmgjeoemnmcjoaa
open Go.RowKit

def ab : ByteArray := ⟨#[97, 98]⟩
theorem ab_size : ab.size = 2 := rfl
theorem ab_0 (h : 0 < ab.size) : ((ab[0]'h).toNat : Int) = 97 := rfl
theorem ab_1 (h : 1 < ab.size) : ((ab[1]'h).toNat : Int) = 98 := rfl
theorem awake1 (w : World) : Calls Try.prog 9 #[] w fun e w' => e = .returned (.bool true) ∧ Below w.heap.size w w' := by
  have hB := Below.refl w.heap.size w
  go_enter Try.func9, Try.ntmps9
  go_wp2_with (first
    | (go_at_call 10; refine (over_c hB (Nat.le_refl _) ab (by decide)).mono ?_; rintro e w1 ⟨g, rfl, h1, hb1⟩)
    | (go_at_call 12; refine (byte_c h1 (by decide)).mono ?_; rintro e w2 ⟨rfl, h2, _⟩; clear h1)
    | (go_at_call 12; refine (byte_c h2 (by decide)).mono ?_; rintro e w3 ⟨rfl, h3, _⟩; clear h2)
    | (go_at_call 12; refine (byte_c_no h3 rfl).mono ?_; rintro e w4 ⟨rfl, h4, _⟩; clear h3))
  go_ret
  exact ⟨rfl, h4.old⟩
theorem awake1' (w : World) : Calls Try.prog 37 #[] w fun e w' => e = .returned (.bool true) ∧ Below w.heap.size w w' := by
  go_enter Try.func37, Try.ntmps37
  go_wp2_with (go_at_call 9; refine (awake1 _).mono ?_; rintro e w1 ⟨rfl, h1⟩)
  go_ret
  exact ⟨rfl, h1⟩
end Go.Proofs.Ytmgjeoemnmcjoaa
