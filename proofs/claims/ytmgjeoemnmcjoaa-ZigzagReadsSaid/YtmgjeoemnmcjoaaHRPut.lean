/-
  The document's Put, walked: what it writes is the plain list's putL. For every number of 64 bits.
-/
import Derived.Test.YtmgjeoemnmcjoaaAwb
import Derived.Test.YtmgjeoemnmcjoaaVal
import Derived.Laws.IdiomStrings
namespace Go.Proofs.Ytmgjeoemnmcjoaa
open Go.RowKit

theorem flat_add1 (b j : Nat) : (⟨b, 0, none⟩ : Addr).add j = ⟨b, j, none⟩ := by unfold Addr.add; split <;> simp_all
theorem conv_byte (w : World) (x : Int) (c : Nat) (h : x = c) (hc : c < 256) : (convert 35 9 (.slice (some ⟨w.heap.size, 0, none⟩) 1 1)).run Try.prog (w.alloc (.cells #[.int .u8 x] 5)) = .ok (.string (strL [c])) (w.alloc (.cells #[.int .u8 x] 5)) := by
  subst h
  have h1 := run_convert_bytes_back (P := Try.prog) (w.alloc (.cells #[.int .u8 (c : Int)] 5)) 35 9 5 ⟨w.heap.size, 0, none⟩ 1 [UInt8.ofNat c] Try.underlying35 Try.underlying5 Try.underlying9 (fun j hj => by
    obtain rfl : j = 0 := by simp at hj; exact hj
    rw [flat_add1]
    simp
    omega)
  rw [show ([UInt8.ofNat c] : List UInt8).length = 1 from rfl] at h1
  rw [h1]
  have e : strL [c] = ⟨[UInt8.ofNat c].toArray⟩ := by
    apply bytes_ext
    rw [strL_data]
    rfl
  rw [e]
/-- The state at a round's head: l is written, n is still to be written. -/
structure RPutS (w W : World) (P l : List Nat) (n : Nat) : Prop where
  old : Below w.heap.size w W
  all : l ++ putL n = P
  lt : n < 2 ^ 64
theorem RPutS.len {w W : World} {P l : List Nat} {n : Nat} (h : RPutS w W P l n) (hP : P.length ≤ 10) : l.length < 10 := by
  have h1 := putL_pos n
  have h2 := congrArg List.length h.all
  rw [List.length_append] at h2
  omega
set_option maxRecDepth 100000 in
set_option maxHeartbeats 4000000 in
theorem rput_hand (N : Nat) (hN : N < 2 ^ 64) (w : World) : Calls Try.prog 31 #[.int .u64 N] w fun e w' => e = .returned (.string (strL (putL N))) ∧ Below w.heap.size w w' := by
  have hP10 := putL_ten hN
  have h0 : RPutS w w (putL N) [] N := ⟨Below.refl _ _, rfl, hN⟩
  obtain ⟨P, hP⟩ : ∃ P, P = putL N := ⟨_, rfl⟩
  rw [← hP] at h0 hP10 ⊢
  clear hP hN
  go_enter Try.func31, Try.ntmps31
  go_wp2
  go_loopw [0, 3] (fun v0 v3 wr => ∃ (n : Nat) (l : List Nat), v0 = .int .u64 n ∧ v3 = .string (strL l) ∧ RPutS w wr P l n) (fun v0 _ _ => (intOf v0).toNat)
  case atStart => exact ⟨N, [], rfl, rfl, h0⟩
  case round =>
    obtain ⟨n, l, rfl, rfl, hst⟩ := hrel
    clear h0
    have hlen := hst.len hP10
    have hall := hst.all
    have hsz := hst.old.size
    have hlt := hst.lt
    have hsl : (strL l).size ≤ 10 := by rw [strL_size]; omega
    by_cases h128 : 127 < n
    · rw [putL_big (by omega)] at hall
      have HALL := Lib.hid hall
      have HLT := Lib.hid hlt
      have hw : IntKind.u64.wrap ((n : Int) / 128) = (n : Int) / 128 := by rw [wrap_u64]; omega
      clear hall hlt
      have hcv := fun (w : World) => conv_byte w ((n : Int) % 128 + 128) (n % 128 + 128) (by simp) (by omega)
      have hs1 : (strL [n % 128 + 128]).size ≤ 10 := by rw [strL_size]; simp
      go_wp2
      go_roundw
      case rel => exact ⟨n / 128, l ++ [n % 128 + 128], by simp, by rw [strL_append2], hst.old.alloc hsz _, by rw [List.append_assoc]; exact HALL.out, by have := HLT.out; omega⟩
      case measure => simp [intOf]; omega
    · have hn : n < 128 := by omega
      rw [putL_small hn] at hall
      have HALL := Lib.hid hall
      have hcv := fun (w : World) => conv_byte w (n : Int) n rfl (by omega)
      have hs1 : (strL [n]).size ≤ 10 := by rw [strL_size]; simp
      clear hall hlt
      go_wp2
      go_ret
      exact ⟨by show Ending.returned (.string (strL l ++ strL [n])) = _; rw [← strL_append2, HALL.out], hst.old.alloc hsz _⟩
end Go.Proofs.Ytmgjeoemnmcjoaa
