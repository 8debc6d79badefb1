/-
  Strings as lists of bytes; the few facts on bits that the code of varint leans on.
-/
import Derived.Test.YtmgjeoemnmcjoaaSpec
import Derived.RowKit
import Derived.Laws.BitsLemmas
import Derived.Laws.BytesArg
namespace Go.Proofs.Ytmgjeoemnmcjoaa
open Go.RowKit

def bytesL (s : ByteArray) : List Nat := s.data.toList.map UInt8.toNat
def strL (l : List Nat) : ByteArray := strOfNums (l.map Int.ofNat)
theorem bytesL_len (s : ByteArray) : (bytesL s).length = s.size := by
  unfold bytesL
  rw [List.length_map, Array.length_toList]
  rfl
theorem bytesL_byte (s : ByteArray) : ∀ c ∈ bytesL s, c < 256 := by
  intro c hc
  simp only [bytesL, List.mem_map] at hc
  obtain ⟨u, _, rfl⟩ := hc
  exact u.toNat_lt
theorem strL_size (l : List Nat) : (strL l).size = l.length := by
  unfold strL
  rw [strOfNums_size, List.length_map]
theorem strL_data (l : List Nat) : (strL l).data.toList = l.map UInt8.ofNat := by
  unfold strL
  rw [strOfNums_data, List.map_map]
  rfl
theorem bytesL_strL (l : List Nat) (h : ∀ c ∈ l, c < 256) : bytesL (strL l) = l := by
  unfold bytesL
  rw [strL_data, List.map_map]
  conv => rhs; rw [← List.map_id l]
  refine List.map_congr_left fun c hc => ?_
  have := h c hc
  simp
  omega
theorem bytes_ext {a b : ByteArray} (h : a.data.toList = b.data.toList) : a = b := ByteArray.ext (Array.ext' h)
theorem strL_bytesL (s : ByteArray) : strL (bytesL s) = s := by
  apply bytes_ext
  rw [strL_data, bytesL, List.map_map]
  conv => rhs; rw [← List.map_id s.data.toList]
  refine List.map_congr_left fun c _ => ?_
  simp
theorem bytesL_inj {a b : ByteArray} (h : bytesL a = bytesL b) : a = b := by rw [← strL_bytesL a, h, strL_bytesL]
theorem bytesL_get (s : ByteArray) (i : Nat) (h : i < s.size) (h' : i < (bytesL s).length) : (bytesL s)[i] = s[i].toNat := by
  simp only [bytesL, List.getElem_map, Array.getElem_toList]
  rfl
theorem bytesL_append (a b : ByteArray) : bytesL (a ++ b) = bytesL a ++ bytesL b := by
  unfold bytesL
  rw [← List.map_append]
  simp [ByteArray.data_append]
theorem bytesL_extract (s : ByteArray) (i j : Nat) : bytesL (s.extract i j) = ((bytesL s).take j).drop i := by
  unfold bytesL
  rw [← List.map_take, ← List.map_drop]
  simp [ByteArray.data_extract, Array.toList_extract, List.extract_eq_take_drop]
  rw [List.drop_take]
theorem or8 (n : Nat) : Go.bits .or .u8 ((n : Int) % 256) 128 = ((n % 128 + 128 : Nat) : Int) := by
  have h : ∀ b : Fin 256, Go.bits .or .u8 (b.val : Int) 128 = ((b.val % 128 + 128 : Nat) : Int) := by decide +kernel
  have h1 := h ⟨n % 256, by omega⟩
  simp only at h1
  rw [show n % 256 % 128 = n % 128 by omega] at h1
  rw [← h1]
  simp
theorem and7 (c : Nat) (h : c < 256) (h1 : 128 ≤ c) : IntKind.u64.wrap (Go.bits .and .u8 (c : Int) 127) = ((c - 128 : Nat) : Int) := by
  have h2 : ∀ b : Fin 256, 128 ≤ b.val → IntKind.u64.wrap (Go.bits .and .u8 (b.val : Int) 127) = ((b.val - 128 : Nat) : Int) := by decide +kernel
  exact h2 ⟨c, h⟩ h1
theorem wrap_u64 (n : Int) : IntKind.u64.wrap n = n % 18446744073709551616 := by simp [IntKind.wrap, IntKind.bits, IntKind.signed]
theorem wraps_u64 (n : Int) (h₀ : 0 ≤ n) (h₁ : n < 2 ^ 64) : IntKind.u64.wrap n = n := by
  rw [wrap_u64]
  exact Int.emod_eq_of_lt h₀ h₁
theorem or_comm (k : IntKind) (x y : Int) : Go.bits .or k x y = Go.bits .or k y x := by
  unfold Go.bits
  simp only
  rw [BitVec.or_comm]
theorem two_pow_seven (i : Nat) : 2 ^ (7 * i) = 128 ^ i := by rw [Nat.pow_mul]
theorem wrap_seven (i : Nat) (hi : i ≤ 9) : 0 ≤ wrap64 (7 * (i : Int)) := by
  have h1 : wrap64 (7 * (i : Int)) = ((7 * i : Nat) : Int) := by unfold wrap64; omega
  rw [h1]
  exact Int.natCast_nonneg _
theorem or_join (a c i : Nat) (hi : i ≤ 9) (ha : a < 128 ^ i) (h : c * 128 ^ i < 2 ^ 64) : Go.bits .or .u64 (a : Int) ((c * 128 ^ i : Nat) : Int) = ((a + c * 128 ^ i : Nat) : Int) := by
  have hp : 128 ^ i ≤ 128 ^ 9 := Nat.pow_le_pow_right (by decide) hi
  have h9 : (128 : Nat) ^ 9 < 2 ^ 64 := by decide
  rw [or_comm]
  rw [bits_join .u64 64 (Nat.le_refl _) wraps_u64 (7 * i) ((c * 128 ^ i : Nat) : Int) (a : Int) (Int.natCast_nonneg _) ?_ (by exact_mod_cast h) (Int.natCast_nonneg _) ?_ (by exact_mod_cast (by omega : a < 2 ^ 64))]
  · omega
  · have : c * 128 ^ i % 2 ^ (7 * i) = 0 := by rw [two_pow_seven]; exact Nat.mul_mod_left _ _
    exact_mod_cast this
  · have : a < 2 ^ (7 * i) := by rw [two_pow_seven]; exact ha
    exact_mod_cast this
end Go.Proofs.Ytmgjeoemnmcjoaa
