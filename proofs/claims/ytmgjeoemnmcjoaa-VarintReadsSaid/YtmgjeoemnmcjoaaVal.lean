/-
  The number that some sevens of bits are, the lowest first; and how it stands to what is read.
-/
import Derived.Test.YtmgjeoemnmcjoaaBits
namespace Go.Proofs.Ytmgjeoemnmcjoaa

def valL : List Nat → Nat
  | [] => 0
  | c :: r => c % 128 + 128 * valL r
theorem valL_snoc (l : List Nat) (c : Nat) : valL (l ++ [c]) = valL l + c % 128 * 128 ^ l.length := by
  induction l with
  | nil => simp [valL]
  | cons x r ih =>
    simp only [List.cons_append, valL, ih, List.length_cons, pow128]
    rw [Nat.mul_add, ← Nat.mul_assoc 128, Nat.mul_comm 128 (c % 128), Nat.mul_assoc]
    omega
theorem valL_lt (l : List Nat) : valL l < 128 ^ l.length := by
  induction l with
  | nil => simp [valL]
  | cons x r ih =>
    simp only [valL, List.length_cons, pow128]
    omega
/-- Where the first i bytes are 128 or more, reading has come to the i-th. -/
theorem go_from (l : List Nat) : ∀ (i j a : Nat), j ≤ l.length → i + j ≤ 10 → (∀ q (h : q < l.length), q < j → 128 ≤ l[q] ∧ l[q] < 256) → goL i a l = goL (i + j) (a + valL (l.take j) * 128 ^ i) (l.drop j) := by
  induction l with
  | nil =>
    intro i j a hj _ _
    obtain rfl : j = 0 := by simpa using hj
    simp [valL]
  | cons c r ih =>
    intro i j a hj h10 h
    cases j with
    | zero => simp [valL]
    | succ j =>
      obtain ⟨h1, h2⟩ := h 0 (by simp) (by omega)
      simp only [List.getElem_cons_zero] at h1 h2
      rw [List.take_succ_cons, List.drop_succ_cons]
      conv => lhs; simp only [goL]
      rw [if_neg (by omega), if_pos h1]
      rw [ih (i + 1) j _ (by simpa using hj) (by omega) (fun q hq hqj => by have := h (q + 1) (by simp; omega) (by omega); simpa using this)]
      simp only [valL]
      congr 1
      · omega
      · rw [pow128, show c % 128 = c - 128 by omega, Nat.add_mul, show valL (r.take j) * (128 * 128 ^ i) = 128 * valL (r.take j) * 128 ^ i by rw [← Nat.mul_assoc, Nat.mul_comm _ 128]]
        omega
theorem strL_append2 (a b : List Nat) : strL (a ++ b) = strL a ++ strL b := by
  apply bytes_ext
  rw [strL_data]
  simp [ByteArray.data_append, strL_data]
end Go.Proofs.Ytmgjeoemnmcjoaa
