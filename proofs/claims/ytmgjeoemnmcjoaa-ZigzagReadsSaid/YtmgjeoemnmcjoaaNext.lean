/-
  varint.Next: of nil; over a cursor: the number that its rest begins with, and the cursor goes on behind it, or stays.
-/
import Derived.Test.YtmgjeoemnmcjoaaAwb
namespace Go.Proofs.Ytmgjeoemnmcjoaa
open Go.RowKit

theorem next_nil (w : World) : Calls Try.prog 21 #[.pointer none] w fun e w' => e = .returned (.tuple #[.int .u64 0, .int .i64 25]) ∧ w' = w := by
  go_enter Try.func21, Try.ntmps21
  go_wp2
  go_ret2
  exact ⟨rfl, rfl⟩
theorem next_any {B : Nat} {w0 w : World} {g : Nat} {s : ByteArray} {a n k e : Nat} (h : At B w0 w g s a) (hk : a + k ≤ s.size)
    (hg : ∀ w, Calls Try.prog 20 #[.string (s.extract a s.size)] w fun x w' => x = .returned (.tuple #[.int .u64 n, .int .i64 k, .int .i64 e]) ∧ Below w.heap.size w w') :
    Calls Try.prog 21 #[.pointer (some ⟨g, 0, none⟩)] w fun x w' => x = .returned (.tuple #[.int .u64 n, .int .i64 e]) ∧ At B w0 w' g s (a + k) := by
  have hs := h.small
  have hw : IntKind.u64.wrap (k : Int) = k := by rw [wrap_u64]; omega
  go_enter Try.func21, Try.ntmps21
  go_wp2_with (first
    | (go_at_call 15; refine (rest_c h).mono ?_; rintro x w1 ⟨rfl, h1, _⟩)
    | (go_at_call 20; refine (hg _).mono ?_; rintro x w2 ⟨rfl, hb2⟩; have h2 := h1.below hb2)
    | (go_at_call 13; refine (take_c h2 hk).mono ?_; rintro x w3 ⟨rfl, h3, _⟩))
  go_ret2
  exact ⟨rfl, h3⟩
theorem next_c (hG : GetC) {B : Nat} {w0 w : World} {g : Nat} {s : ByteArray} {a : Nat} {L : Nat × Nat × Nat} (h : At B w0 w g s a) (hL : getL ((bytesL s).drop a) = L) :
    Calls Try.prog 21 #[.pointer (some ⟨g, 0, none⟩)] w fun x w' => x = .returned (.tuple #[.int .u64 L.1, .int .i64 L.2.2]) ∧ At B w0 w' g s (a + L.2.1) := by
  subst hL
  have e : bytesL (s.extract a s.size) = (bytesL s).drop a := by
    rw [bytesL_extract, List.take_of_length_le (by rw [bytesL_len]; exact Nat.le_refl _)]
  have hle := get_le ((bytesL s).drop a) (fun c hc => bytesL_byte s c (List.mem_of_mem_drop hc))
  rw [List.length_drop, bytesL_len] at hle
  have := h.le
  refine next_any h (by omega) (fun w => ?_)
  have h1 := hG (s.extract a s.size) w
  rw [e] at h1
  exact h1
end Go.Proofs.Ytmgjeoemnmcjoaa
