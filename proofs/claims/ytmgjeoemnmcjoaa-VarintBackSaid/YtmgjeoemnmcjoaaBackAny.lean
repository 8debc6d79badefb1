/-
  VarintBack answers true for every number, text and cut.
-/
import Derived.Test.YtmgjeoemnmcjoaaBack
import Derived.Test.YtmgjeoemnmcjoaaHGet
import Derived.Test.YtmgjeoemnmcjoaaHPut
import GoSem.Claim
namespace Go.Proofs.Ytmgjeoemnmcjoaa
open Go.RowKit

theorem u64_nat {n : Int} (h : (Lit.int .u64 n).wf = true) : ∃ N : Nat, n = N ∧ N < 2 ^ 64 := by
  simp [Lit.wf, IntKind.min, IntKind.max, IntKind.bits, IntKind.signed] at h
  obtain ⟨N, rfl⟩ := Int.eq_ofNat_of_zero_le h.1
  exact ⟨N, rfl, by omega⟩
theorem u8_nat {n : Int} (h : (Lit.int .u8 n).wf = true) : ∃ N : Nat, n = N ∧ N < 256 := by
  simp [Lit.wf, IntKind.min, IntKind.max, IntKind.bits, IntKind.signed] at h
  obtain ⟨N, rfl⟩ := Int.eq_ofNat_of_zero_le h.1
  exact ⟨N, rfl, by omega⟩
theorem back_any (n : Int) (s : ByteArray) (c : Int) (w : World) (hn : (Lit.int .u64 n).wf = true) (hs : s.size ≤ 140737488351232) (hc : (Lit.int .u8 c).wf = true) :
    Calls Try.prog 5 #[.int .u64 n, .string s, .int .u8 c] w fun e w' => e = .returned (.bool true) ∧ Below w.heap.size w w' := by
  have hP : PutC := putC_hand
  have hG : GetC := getC_hand
  obtain ⟨N, rfl, hN⟩ := u64_nat hn
  obtain ⟨C, rfl, hC⟩ := u8_nat hc
  by_cases hf : 2000 < s.size
  · exact back_far hP hG N C s w hf hs
  have hs2 : s.size ≤ 2000 := by omega
  have hb := bytesL_byte s
  by_cases he : (getL (bytesL s)).2.2 = 0
  · obtain ⟨h1, h2⟩ := get_back (bytesL s) hb he
    rw [bytesL_len] at h1
    refine back_ok hP hG N C s _ w hs2 hC (back_facts hP hG N hN s C) (getL (bytesL s)).1 (getL (bytesL s)).2.1 0 rfl rfl h1 (fun w => ?_) (fun w => ?_)
    · have h := hG s w
      rw [he] at h
      exact h
    · have h := hP (getL (bytesL s)).1 (get_lt (bytesL s) hb) w
      have e : strL (putL (getL (bytesL s)).1) = s.extract 0 (getL (bytesL s)).2.1 := by
        apply bytesL_inj
        rw [bytesL_extract, List.drop_zero, ← h2, bytesL_strL _ (putL_byte _)]
      rw [e] at h
      exact h
  · have h3 := get_err (bytesL s) he
    refine back_err hP hG N C s _ w hs2 hC (back_facts hP hG N hN s C) (getL (bytesL s)).2.2 he (fun w => ?_)
    have h := hG s w
    rw [h3] at h
    exact h
end Go.Proofs.Ytmgjeoemnmcjoaa
