/-
  varint.Next over a cursor, and that nothing but the cursor's own block turns.
-/
import Derived.Test.YtmgjeoemnmcjoaaAwb
namespace Go.Proofs.Ytmgjeoemnmcjoaa
open Go.RowKit

theorem next_keep (hG : GetC) {B : Nat} {w0 w : World} {g : Nat} {s : ByteArray} {a n m e : Nat} (h : At B w0 w g s a) (hL : getL ((bytesL s).drop a) = (n, m, e)) :
    Calls Try.prog 21 #[.pointer (some ⟨g, 0, none⟩)] w fun x w' => x = .returned (.tuple #[.int .u64 n, .int .i64 e]) ∧ At B w0 w' g s (a + m) ∧ w.grownBy w' (some g) := by
  have e1 : bytesL (s.extract a s.size) = (bytesL s).drop a := by
    rw [bytesL_extract, List.take_of_length_le (by rw [bytesL_len]; exact Nat.le_refl _)]
  have hle := get_le ((bytesL s).drop a) (fun c hc => bytesL_byte s c (List.mem_of_mem_drop hc))
  rw [List.length_drop, bytesL_len, hL] at hle
  have hk : a + m ≤ s.size := by have := h.le; simp only at hle; omega
  have hg : ∀ w, Calls Try.prog 20 #[.string (s.extract a s.size)] w fun x w' => x = .returned (.tuple #[.int .u64 n, .int .i64 m, .int .i64 e]) ∧ Below w.heap.size w w' := by
    intro w
    have h1 := hG (s.extract a s.size) w
    rw [e1, hL] at h1
    exact h1
  have hs := h.small
  have hw : IntKind.u64.wrap (m : Int) = m := by rw [wrap_u64]; omega
  clear hle e1 hL
  go_enter Try.func21, Try.ntmps21
  go_wp2_with (first
    | (go_at_call 15; refine (rest_c h).mono ?_; rintro x w1 ⟨rfl, h1, g1⟩)
    | (go_at_call 20; refine (hg _).mono ?_; rintro x w2 ⟨rfl, hb2⟩; have h2 := h1.below hb2)
    | (go_at_call 13; refine (take_c h2 hk).mono ?_; rintro x w3 ⟨rfl, h3, g3⟩))
  go_ret2
  exact ⟨rfl, h3, grown_trans (grown_trans g1 (grown_below hb2 _)) g3⟩
end Go.Proofs.Ytmgjeoemnmcjoaa
