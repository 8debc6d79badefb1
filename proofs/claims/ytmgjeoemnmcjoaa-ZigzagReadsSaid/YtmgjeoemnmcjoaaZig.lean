/-
  The zigzag of a number and back, in plain whole numbers; and what the code's bits come to.
-/
import Derived.Test.YtmgjeoemnmcjoaaBits
namespace Go.Proofs.Ytmgjeoemnmcjoaa
open Go.RowKit

/-- A number's zigzag. -/
def zz (a : Int) : Nat := if 0 ≤ a then (2 * a).toNat else (-2 * a - 1).toNat
/-- The number of a zigzag. -/
def bk (z : Nat) : Int := if z % 2 = 0 then ((z / 2 : Nat) : Int) else -((z / 2 : Nat) : Int) - 1
theorem zz_lt (a : Int) (h0 : -9223372036854775808 ≤ a) (h1 : a ≤ 9223372036854775807) : zz a < 2 ^ 64 := by
  unfold zz
  split <;> omega
theorem xor_zero (k : IntKind) (x : Int) (hx : k.wrap ((BitVec.ofInt k.bits x).toNat : Int) = x) : Go.bits .xor k x 0 = x := by
  unfold Go.bits
  simp only
  rw [show BitVec.ofInt k.bits 0 = 0#k.bits by simp, BitVec.xor_zero, hx]
theorem ofInt_neg1 : BitVec.ofInt 64 (-1) = BitVec.allOnes 64 := by decide
theorem ofInt_max : BitVec.ofInt 64 18446744073709551615 = BitVec.allOnes 64 := by decide
theorem ofInt_toNat (x : Int) : ((BitVec.ofInt 64 x).toNat : Int) = x % 18446744073709551616 := by
  rw [BitVec.toNat_ofInt]
  have : (0 : Int) ≤ x % 18446744073709551616 := Int.emod_nonneg _ (by decide)
  show (((x % 18446744073709551616).toNat : Nat) : Int) = _
  exact Int.toNat_of_nonneg this
theorem xor_ones (x : Int) : ((BitVec.ofInt 64 x ^^^ BitVec.allOnes 64).toNat : Int) = 18446744073709551615 - x % 18446744073709551616 := by
  rw [BitVec.xor_allOnes, BitVec.toNat_not]
  have h := ofInt_toNat x
  have h2 := (BitVec.ofInt 64 x).isLt
  omega
theorem map_eq (a : Int) (h0 : -9223372036854775808 ≤ a) (h1 : a ≤ 9223372036854775807) :
    Go.bits .xor .u64 (IntKind.u64.wrap (IntKind.u64.wrap a * 2)) (IntKind.u64.wrap (a / 9223372036854775808)) = (zz a : Int) := by
  unfold zz
  by_cases h : 0 ≤ a
  · rw [if_pos h, show a / 9223372036854775808 = 0 by omega, show IntKind.u64.wrap 0 = 0 by decide]
    have e : IntKind.u64.wrap (IntKind.u64.wrap a * 2) = 2 * a := by rw [wrap_u64, wrap_u64]; omega
    rw [e, xor_zero]
    · omega
    · rw [wrap_u64]
      show ((BitVec.ofInt 64 (2 * a)).toNat : Int) % 18446744073709551616 = 2 * a
      rw [ofInt_toNat]
      omega
  · rw [if_neg h, show a / 9223372036854775808 = -1 by omega, show IntKind.u64.wrap (-1) = 18446744073709551615 by decide]
    have e : IntKind.u64.wrap (IntKind.u64.wrap a * 2) = 2 * a + 18446744073709551616 := by rw [wrap_u64, wrap_u64]; omega
    rw [e]
    unfold Go.bits
    simp only
    show IntKind.u64.wrap ((BitVec.ofInt 64 (2 * a + 18446744073709551616) ^^^ BitVec.ofInt 64 18446744073709551615).toNat : Int) = _
    rw [ofInt_max, xor_ones, wrap_u64]
    omega
theorem and_one (z : Nat) (h : z < 2 ^ 64) : Go.bits .and .u64 (z : Int) 1 = ((z % 2 : Nat) : Int) := by
  rw [show (1 : Int) = 2 ^ 1 - 1 by decide, bits_mask .u64 64 (Nat.le_refl _) wraps_u64 1 (by decide) (z : Int) (Int.natCast_nonneg _) (by exact_mod_cast h)]
  simp
theorem wrap64_i64 (n : Int) : IntKind.i64.wrap n = wrap64 n := by
  rw [IntKind.wrap_i64]
  unfold wrap64
  rfl
theorem back_eq (z : Nat) (h : z < 2 ^ 64) : Go.bits .xor .i64 (wrap64 ((z : Int) / 2)) (wrap64 (-(wrap64 (Go.bits .and .u64 (z : Int) 1)))) = bk z := by
  rw [and_one z h]
  have e : wrap64 ((z : Int) / 2) = ((z / 2 : Nat) : Int) := by unfold wrap64; omega
  rw [e]
  unfold bk
  by_cases h2 : z % 2 = 0
  · rw [if_pos h2, h2, show wrap64 (-(wrap64 ((0 : Nat) : Int))) = 0 by unfold wrap64; decide]
    apply xor_zero
    show IntKind.i64.wrap ((BitVec.ofInt 64 ((z / 2 : Nat) : Int)).toNat : Int) = _
    rw [ofInt_toNat, wrap64_i64]
    unfold wrap64
    omega
  · rw [if_neg h2, show z % 2 = 1 by omega, show wrap64 (-(wrap64 ((1 : Nat) : Int))) = -1 by unfold wrap64; decide]
    unfold Go.bits
    simp only
    show IntKind.i64.wrap ((BitVec.ofInt 64 ((z / 2 : Nat) : Int) ^^^ BitVec.ofInt 64 (-1)).toNat : Int) = _
    rw [ofInt_neg1, xor_ones, wrap64_i64]
    unfold wrap64
    omega
theorem rback_even (z : Nat) (h : z < 2 ^ 64) (h2 : z % 2 = 0) : wrap64 (IntKind.u64.wrap (Int.tdiv (z : Int) 2)) = bk z := by
  rw [Int.tdiv_eq_ediv_of_nonneg (Int.natCast_nonneg _), wrap_u64]
  unfold bk wrap64
  rw [if_pos h2]
  omega
theorem rback_odd (z : Nat) (h : z < 2 ^ 64) (h2 : ¬ z % 2 = 0) : wrap64 ((wrap64 (-(wrap64 (IntKind.u64.wrap (Int.tdiv (z : Int) 2))))) - 1) = bk z := by
  rw [Int.tdiv_eq_ediv_of_nonneg (Int.natCast_nonneg _), wrap_u64]
  have e1 : wrap64 ((z : Int) / 2 % 18446744073709551616) = ((z / 2 : Nat) : Int) := by unfold wrap64; omega
  have e2 : wrap64 (-((z / 2 : Nat) : Int)) = -((z / 2 : Nat) : Int) := by unfold wrap64; omega
  rw [e1, e2]
  unfold bk wrap64
  rw [if_neg h2]
  omega
theorem rmap_pos (a : Int) (h0 : 0 ≤ a) (h1 : a ≤ 9223372036854775807) : IntKind.u64.wrap (2 * IntKind.u64.wrap a) = (zz a : Int) := by
  unfold zz
  rw [if_pos h0, wrap_u64, wrap_u64]
  omega
theorem rmap_neg (a : Int) (h0 : -9223372036854775808 ≤ a) (h1 : a < 0) :
    IntKind.u64.wrap ((IntKind.u64.wrap (2 * (IntKind.u64.wrap ((IntKind.u64.wrap ((IntKind.u64.wrap (wrap64 (-(wrap64 (a + 1))))) + 1)) - 1)))) + 1) = (zz a : Int) := by
  have e1 : wrap64 (a + 1) = a + 1 := by unfold wrap64; omega
  have e2 : wrap64 (-(a + 1)) = -(a + 1) := by unfold wrap64; omega
  have e3 : IntKind.u64.wrap (-(a + 1)) = -(a + 1) := by rw [wrap_u64]; omega
  have e4 : IntKind.u64.wrap (-(a + 1) + 1) = -a := by rw [wrap_u64]; omega
  have e5 : IntKind.u64.wrap (-a - 1) = -a - 1 := by rw [wrap_u64]; omega
  have e6 : IntKind.u64.wrap (2 * (-a - 1)) = 2 * (-a - 1) := by rw [wrap_u64]; omega
  rw [e1, e2, e3, e4, e5, e6, wrap_u64]
  unfold zz
  rw [if_neg (by omega)]
  omega
end Go.Proofs.Ytmgjeoemnmcjoaa
