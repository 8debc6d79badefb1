/-
  What varint.Put and varint.Get answer, out of their printed functions: the plain lists' putL and getL. For every number of 64 bits and every text.
-/
import Derived.Test.YtmgjeoemnmcjoaaPVarintReadsx1
import Derived.Test.YtmgjeoemnmcjoaaPVarintReadsx2
import Derived.Test.YtmgjeoemnmcjoaaBits
namespace Go.Proofs.Ytmgjeoemnmcjoaa.GVarintReads
open Go.RowKit Go.Proofs.YtmgjeoemnmcjoaaW.PrintWords Go.Proofs.YtmgjeoemnmcjoaaW.PrintLast Go.Proofs.YtmgjeoemnmcjoaaW.PrintMore Go.Proofs.Ytmgjeoemnmcjoaa.PVarintReads

theorem put_l0 (d : Nat) : ∀ (n k : Nat) (l : List Nat), n < 128 ^ (d + 1) → d < k → l.length + d < 1000 →
    varint_Put.l0 k (n : Int) (l.map Int.ofNat) = some (strL (l ++ putL n)) := by
  induction d with
  | zero =>
    intro n k l hn hk hl
    obtain ⟨k, rfl⟩ : ∃ m, k = m + 1 := ⟨k - 1, by omega⟩
    simp only [varint_Put.l0]
    have h1 : n < 128 := by simpa using hn
    rw [if_neg (by omega), if_pos (by rw [List.length_map]; omega), putL_small h1]
    unfold strL
    rw [List.map_append, show ((n : Int) % 256) = Int.ofNat n by simp; omega]
    rfl
  | succ d ih =>
    intro n k l hn hk hl
    obtain ⟨k, rfl⟩ : ∃ m, k = m + 1 := ⟨k - 1, by omega⟩
    simp only [varint_Put.l0]
    by_cases h : n < 128
    · rw [if_neg (by omega), if_pos (by rw [List.length_map]; omega), putL_small h]
      unfold strL
      rw [List.map_append, show ((n : Int) % 256) = Int.ofNat n by simp; omega]
      rfl
    · rw [if_pos (by omega), if_pos (by rw [List.length_map]; omega), or8, putL_big h]
      have h2 : n / 128 < 128 ^ (d + 1) := by
        rw [Nat.div_lt_iff_lt_mul (by decide)]
        rw [Nat.pow_succ] at hn
        exact hn
      have h3 := ih (n / 128) k (l ++ [n % 128 + 128]) h2 (by omega) (by rw [List.length_append, List.length_singleton]; omega)
      rw [List.map_append, List.append_assoc] at h3
      exact h3
theorem put_f (n : Nat) (hn : n < 2 ^ 64) : varint_Put.f 10 (n : Int) = some (strL (putL n)) :=
  put_l0 9 n 10 [] (Nat.lt_trans hn (by decide)) (by decide) (by decide)
theorem put_c (n : Nat) (hn : n < 2 ^ 64) (w : World) : Calls Try.prog 19 #[.int .u64 n] w fun e w' => e = .returned (.string (strL (putL n))) ∧ Below w.heap.size w w' :=
  varint_Put.calls 10 n _ w (put_f n hn)

def tri (x : Nat × Nat × Nat) : Int × Int × Int := (x.1, x.2.1, x.2.2)
theorem mn_ten (n : Nat) : mn (n : Int) 10 = ((min n 10 : Nat) : Int) := by unfold mn; split <;> omega
theorem get_end (s : ByteArray) (k : Nat) (a : Int) (i b : Nat) (hi : i = min s.size 10) (hk : 0 < k) : varint_Get.l0 k s a (mn (s.size : Int) 10) i = some (tri (goL i b ((bytesL s).drop i))) := by
  obtain ⟨k, rfl⟩ : ∃ m, k = m + 1 := ⟨k - 1, by omega⟩
  simp only [varint_Get.l0]
  rw [mn_ten, if_neg (by omega)]
  by_cases h : 10 ≤ s.size
  · rw [if_pos (by omega)]
    obtain rfl : i = 10 := by omega
    cases (bytesL s).drop 10 with
    | nil => simp [goL, tri]
    | cons c r => simp [goL, tri]
  · rw [if_neg (by omega), List.drop_eq_nil_of_le (by rw [bytesL_len]; omega)]
    simp only [goL, tri]
    rw [if_pos (by omega)]
    rfl
theorem get_j1 (k a i c : Nat) (hk : 0 < k) (hi : i ≤ 9) (ha : a < 128 ^ i) (hc : c < 128) (h9 : i = 9 → c ≤ 1) :
    varint_Get.j1 k a i c false = some (tri (if 0 < i ∧ c = 0 then (0, 0, 2) else (a + c * 128 ^ i, i + 1, 0))) := by
  obtain ⟨k, rfl⟩ : ∃ m, k = m + 1 := ⟨k - 1, by omega⟩
  have hp : 128 ^ i ≤ 128 ^ 9 := Nat.pow_le_pow_right (by decide) hi
  have h8 : (128 : Nat) * 128 ^ 8 = 2 ^ 63 := by decide
  have hb : c * 128 ^ i < 2 ^ 64 := by
    by_cases h : i = 9
    · have h1 := h9 h
      subst h
      have : c * 128 ^ 9 ≤ 1 * 128 ^ 9 := Nat.mul_le_mul_right _ h1
      have h2 : (2 : Nat) ^ 64 = 2 * 128 ^ 9 := by decide
      omega
    · have h1 : 128 ^ i ≤ 128 ^ 8 := Nat.pow_le_pow_right (by decide) (by omega)
      have h2 : c * 128 ^ i ≤ 127 * 128 ^ i := Nat.mul_le_mul_right _ (by omega)
      have h3 : (2 : Nat) ^ 64 = 2 * (128 * 128 ^ 8) := by decide
      omega
  have hw : IntKind.u64.wrap (c : Int) = c := by rw [wrap_u64]; omega
  have hn := wrap_seven i hi
  have hr : some (Go.bits .or .u64 (a : Int) (shl .u64 (IntKind.u64.wrap (c : Int)) (wrap64 (7 * (i : Int)))), wrap64 ((i : Int) + 1), (0 : Int)) = some (tri (a + c * 128 ^ i, i + 1, 0)) := by
    rw [hw, or64 a c i hi ha hb]
    have : wrap64 ((i : Int) + 1) = ((i + 1 : Nat) : Int) := by unfold wrap64; omega
    rw [this]
    rfl
  simp only [varint_Get.j1]
  rw [if_neg (by decide)]
  by_cases h0 : 0 < i
  · rw [if_pos (by omega)]
    by_cases h1 : c = 0
    · rw [if_pos (by omega), if_pos ⟨h0, h1⟩]
      rfl
    · rw [if_neg (by omega : ¬ (c : Int) = 0), if_pos hn, if_neg (by omega : ¬ (0 < i ∧ c = 0))]
      exact hr
  · rw [if_neg (by omega : ¬ (i : Int) > 0), if_pos hn, if_neg (by omega : ¬ (0 < i ∧ c = 0))]
    exact hr
theorem get_l0 (s : ByteArray) (d : Nat) : ∀ (k i a : Nat), i + d = 10 → i ≤ s.size → a < 128 ^ i → d + 1 < k →
    varint_Get.l0 k s a (mn (s.size : Int) 10) i = some (tri (goL i a ((bytesL s).drop i))) := by
  induction d with
  | zero =>
    intro k i a hi hs ha hk
    exact get_end s k a i a (by omega) (by omega)
  | succ d ih =>
    intro k i a hi hs ha hk
    by_cases hlt : i < s.size
    · obtain ⟨k, rfl⟩ : ∃ m, k = m + 1 := ⟨k - 1, by omega⟩
      have hl : i < (bytesL s).length := by rw [bytesL_len]; exact hlt
      have hc := bytesL_byte s _ (List.getElem_mem hl)
      have hd : (bytesL s).drop i = (bytesL s)[i] :: (bytesL s).drop (i + 1) := List.drop_eq_getElem_cons hl
      have hb := bt_get s i hlt hl
      generalize (bytesL s)[i] = c at hc hd hb
      rw [hd]
      simp only [varint_Get.l0, goL]
      rw [if_pos (by rw [mn_ten]; omega), if_pos (by omega), if_pos (by omega), hb, if_neg (by omega : ¬ i = 10)]
      have hw : wrap64 ((i : Int) + 1) = ((i + 1 : Nat) : Int) := by unfold wrap64; omega
      by_cases h128 : 128 ≤ c
      · rw [if_pos (by omega : (c : Int) ≥ 128), if_pos (wrap_seven i (by omega)), if_pos h128, hw, and7 c hc h128]
        by_cases h9 : i = 9
        · exact get_end s k _ (i + 1) _ (by omega) (by omega)
        · have h1 : (c - 128) * 128 ^ i ≤ 127 * 128 ^ i := Nat.mul_le_mul_right _ (by omega)
          have h2 : 128 * 128 ^ i ≤ 128 ^ 9 := by rw [← pow128]; exact Nat.pow_le_pow_right (by decide) (by omega)
          have h3 : (128 : Nat) ^ 9 < 2 ^ 64 := by decide
          rw [or64 a (c - 128) i (by omega) ha (by omega)]
          exact ih k (i + 1) _ (by omega) (by omega) (by rw [pow128]; omega) (by omega)
      · rw [if_neg (by omega), if_neg h128]
        by_cases h9 : i = 9
        · rw [if_pos (by omega)]
          by_cases h1 : 1 < c
          · obtain ⟨k, rfl⟩ : ∃ m, k = m + 1 := ⟨k - 1, by omega⟩
            simp only [varint_Get.j1]
            rw [if_pos (decide_eq_true (by omega)), if_pos ⟨h9, h1⟩]
            rfl
          · rw [decide_eq_false (by omega), if_neg (by omega)]
            exact get_j1 k a i c (by omega) (by omega) ha (by omega) (by omega)
        · rw [if_neg (by omega), if_neg (by omega)]
          exact get_j1 k a i c (by omega) (by omega) ha (by omega) (by omega)
    · exact get_end s k a i a (by omega) (by omega)
theorem get_f (s : ByteArray) : varint_Get.f 20 s = some (tri (getL (bytesL s))) := by
  have h := get_l0 s 10 20 0 0 (by decide) (by omega) (by decide) (by decide)
  exact h
theorem get_c (s : ByteArray) (w : World) : Calls Try.prog 20 #[.string s] w fun e w' =>
    e = .returned (.tuple #[.int .u64 ((getL (bytesL s)).1 : Int), .int .i64 ((getL (bytesL s)).2.1 : Int), .int .i64 ((getL (bytesL s)).2.2 : Int)]) ∧ Below w.heap.size w w' :=
  varint_Get.calls 20 s _ _ _ w (get_f s)
end Go.Proofs.Ytmgjeoemnmcjoaa.GVarintReads
