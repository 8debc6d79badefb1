/-
  What the document's Put and Get answer, out of their printed functions: the plain lists' putL and getL. For every number of 64 bits and every text.
-/
import Derived.Test.YtmgjeoemnmcjoaaGVarintReads
import Derived.Test.YtmgjeoemnmcjoaaVal
namespace Go.Proofs.Ytmgjeoemnmcjoaa.GVarintReads
open Go.RowKit Go.Proofs.YtmgjeoemnmcjoaaW.PrintWords Go.Proofs.YtmgjeoemnmcjoaaW.PrintLast Go.Proofs.YtmgjeoemnmcjoaaW.PrintMore Go.Proofs.Ytmgjeoemnmcjoaa.PVarintReads

theorem rput_l0 (d : Nat) : ∀ (n k : Nat) (x : ByteArray), n < 128 ^ (d + 1) → n < 2 ^ 64 → d < k → x.size + d < 1000 →
    postmarkref02_Put.l0 k (n : Int) x = some (x ++ strL (putL n)) := by
  induction d with
  | zero =>
    intro n k x hn h64 hk hx
    obtain ⟨k, rfl⟩ : ∃ m, k = m + 1 := ⟨k - 1, by omega⟩
    simp only [postmarkref02_Put.l0, Option.bind_some]
    have h1 : n < 128 := by simpa using hn
    have e : strOfNums [(n : Int) % 256] = strL (putL n) := by
      rw [putL_small h1, show ((n : Int) % 256) = Int.ofNat n by simp; omega]
      rfl
    rw [if_neg (by omega : ¬ (n : Int) > 127), e, if_pos (by rw [strL_size, putL_small h1]; show x.size + 1 ≤ _; omega)]
  | succ d ih =>
    intro n k x hn h64 hk hx
    obtain ⟨k, rfl⟩ : ∃ m, k = m + 1 := ⟨k - 1, by omega⟩
    simp only [postmarkref02_Put.l0, Option.bind_some]
    by_cases h1 : n < 128
    · have e : strOfNums [(n : Int) % 256] = strL (putL n) := by
        rw [putL_small h1, show ((n : Int) % 256) = Int.ofNat n by simp; omega]
        rfl
      rw [if_neg (by omega : ¬ (n : Int) > 127), e, if_pos (by rw [strL_size, putL_small h1]; show x.size + 1 ≤ _; omega)]
    · have e1 : IntKind.u64.wrap (Int.tmod (n : Int) 128 + 128) % 256 = Int.ofNat (n % 128 + 128) := by
        rw [Int.tmod_eq_emod_of_nonneg (Int.natCast_nonneg _), wrap_u64]
        simp
        omega
      have e2 : IntKind.u64.wrap (Int.tdiv (n : Int) 128) = ((n / 128 : Nat) : Int) := by
        rw [Int.tdiv_eq_ediv_of_nonneg (Int.natCast_nonneg _), wrap_u64]
        omega
      have e3 : strOfNums [Int.ofNat (n % 128 + 128)] = strL [n % 128 + 128] := rfl
      have h2 : n / 128 < 128 ^ (d + 1) := by
        rw [Nat.div_lt_iff_lt_mul (by decide)]
        rw [Nat.pow_succ] at hn
        exact hn
      have hsz : (strL [n % 128 + 128]).size = 1 := by rw [strL_size]; rfl
      rw [if_pos (by omega : (n : Int) > 127), e1, e2, e3, if_pos (by rw [hsz]; omega)]
      rw [ih (n / 128) k (x ++ strL [n % 128 + 128]) h2 (by omega) (by omega) (by rw [ByteArray.size_append, hsz]; omega), putL_big h1]
      rw [ByteArray.append_assoc, ← strL_append2]
      rfl
theorem rput_f (n : Nat) (hn : n < 2 ^ 64) : postmarkref02_Put.f 10 (n : Int) = some (strL (putL n)) := by
  have h := rput_l0 9 n 10 ⟨#[]⟩ (Nat.lt_trans hn (by decide)) hn (by decide) (by decide)
  rw [show (⟨#[]⟩ : ByteArray) ++ strL (putL n) = strL (putL n) from ByteArray.empty_append] at h
  exact h
theorem rput_c (n : Nat) (hn : n < 2 ^ 64) (w : World) : Calls Try.prog 31 #[.int .u64 n] w fun e w' => e = .returned (.string (strL (putL n))) ∧ Below w.heap.size w w' :=
  postmarkref02_Put.calls 10 n _ w (rput_f n hn)

theorem rget_l1 (s : ByteArray) (m : Nat) (hm : m ≤ s.size) (h10 : m ≤ 10) (hlast : ∀ h : 9 < (bytesL s).length, m = 10 → (bytesL s)[9] ≤ 1) (d : Nat) :
    ∀ (k i : Nat) (u : Int), i + d = m → d < k → (i < m → u = ((128 ^ i : Nat) : Int)) →
    postmarkref02_Get.l1 k s m (valL ((bytesL s).take i)) u i = some (tri (valL ((bytesL s).take m), m, 0)) := by
  induction d with
  | zero =>
    intro k i u hi hk hu
    obtain ⟨k, rfl⟩ : ∃ m, k = m + 1 := ⟨k - 1, by omega⟩
    obtain rfl : i = m := by omega
    simp only [postmarkref02_Get.l1]
    rw [if_neg (by omega)]
    rfl
  | succ d ih =>
    intro k i u hi hk hu
    obtain ⟨k, rfl⟩ : ∃ m, k = m + 1 := ⟨k - 1, by omega⟩
    have hl : i < (bytesL s).length := by rw [bytesL_len]; omega
    obtain rfl := hu (by omega)
    simp only [postmarkref02_Get.l1]
    rw [if_pos (by omega : (i : Int) < (m : Int)), if_pos (by omega : 0 ≤ (i : Int)), if_pos (by omega : (i : Int) < (s.size : Int)), bt_get s i (by omega) hl]
    have hb := bytesL_byte s _ (List.getElem_mem hl)
    have ht : (bytesL s).take (i + 1) = (bytesL s).take i ++ [(bytesL s)[i]] := List.take_succ_eq_append_getElem hl
    have hv : valL ((bytesL s).take (i + 1)) = valL ((bytesL s).take i) + (bytesL s)[i] % 128 * 128 ^ i := by
      rw [ht, valL_snoc, List.length_take, Nat.min_eq_left (by omega)]
    have h9 : i = 9 → (bytesL s)[i] ≤ 1 := by
      rintro rfl
      exact hlast hl (by omega)
    have hlt := valL_lt ((bytesL s).take i)
    rw [List.length_take, Nat.min_eq_left (by omega)] at hlt
    generalize (bytesL s)[i] = c at hb hv h9
    have hi9 : i ≤ 9 := by omega
    have hp : 128 ^ i ≤ 128 ^ 9 := Nat.pow_le_pow_right (by decide) hi9
    have hsum : valL ((bytesL s).take i) + c % 128 * 128 ^ i < 2 ^ 64 := by
      by_cases h : i = 9
      · have h1 := h9 h
        subst h
        have h2 : c % 128 * 128 ^ 9 ≤ 1 * 128 ^ 9 := Nat.mul_le_mul_right _ (by omega)
        have h3 : (2 : Nat) ^ 64 = 2 * 128 ^ 9 := by decide
        omega
      · have h1 : 128 ^ i ≤ 128 ^ 8 := Nat.pow_le_pow_right (by decide) (by omega)
        have h2 : c % 128 * 128 ^ i ≤ 127 * 128 ^ i := Nat.mul_le_mul_right _ (by omega)
        have h3 : (2 : Nat) ^ 64 = 2 * (128 * 128 ^ 8) := by decide
        omega
    have e1 : IntKind.u64.wrap (Int.tmod (c : Int) 128) = ((c % 128 : Nat) : Int) := by
      rw [Int.tmod_eq_emod_of_nonneg (Int.natCast_nonneg _), wrap_u64]
      omega
    have e2 : IntKind.u64.wrap (((c % 128 : Nat) : Int) * ((128 ^ i : Nat) : Int)) = ((c % 128 * 128 ^ i : Nat) : Int) := by
      rw [← Int.natCast_mul, wraps_u64 _ (Int.natCast_nonneg _) (by exact_mod_cast (by omega : c % 128 * 128 ^ i < 2 ^ 64))]
    have e3 : IntKind.u64.wrap (((valL ((bytesL s).take i) : Nat) : Int) + ((c % 128 * 128 ^ i : Nat) : Int)) = ((valL ((bytesL s).take (i + 1)) : Nat) : Int) := by
      rw [hv, ← Int.natCast_add, wraps_u64 _ (Int.natCast_nonneg _) (by exact_mod_cast hsum)]
    have e4 : wrap64 ((i : Int) + 1) = ((i + 1 : Nat) : Int) := by unfold wrap64; omega
    rw [e1, e2, e3, e4]
    clear e1 e2 e3 e4
    refine ih k (i + 1) _ (by omega) (by omega) (fun h => ?_)
    have h1 : 128 ^ (i + 1) ≤ 128 ^ 9 := Nat.pow_le_pow_right (by decide) (by omega)
    have h2 : (128 : Nat) ^ 9 < 2 ^ 64 := by decide
    have e5 : ((128 ^ i : Nat) : Int) * 128 = ((128 ^ (i + 1) : Nat) : Int) := by rw [pow128]; omega
    rw [e5, wraps_u64 _ (Int.natCast_nonneg _) (by exact_mod_cast (by omega : 128 ^ (i + 1) < 2 ^ 64))]

/-- The first byte below 128 is the i-th. -/
theorem rget_found (s : ByteArray) (k i : Nat) (hl : i < (bytesL s).length) (hi : i < 10) (hb : ∀ q (h : q < (bytesL s).length), q < i → 128 ≤ (bytesL s)[q] ∧ (bytesL s)[q] < 256) (hc : (bytesL s)[i] < 128) (hk : 20 < k) :
    postmarkref02_Get.l0 k s ((i + 1 : Nat) : Int) ((i + 1 : Nat) : Int) = some (tri (getL (bytesL s))) := by
  have hsz := bytesL_len s
  have hg : getL (bytesL s) = if i = 9 ∧ 1 < (bytesL s)[i] then (0, 0, 3) else if 0 < i ∧ (bytesL s)[i] = 0 then (0, 0, 2) else (valL ((bytesL s).take (i + 1)), i + 1, 0) := by
    have h1 := go_from (bytesL s) 0 i 0 (by omega) (by omega) hb
    unfold getL
    have h2 : valL ((bytesL s).take (i + 1)) = valL ((bytesL s).take i) + (bytesL s)[i] % 128 * 128 ^ i := by
      rw [List.take_succ_eq_append_getElem hl, valL_snoc, List.length_take, Nat.min_eq_left (by omega)]
    rw [h1, List.drop_eq_getElem_cons hl, h2]
    simp only [goL]
    rw [if_neg (by omega), if_neg (by omega), Nat.zero_add, Nat.pow_zero, Nat.mul_one, Nat.zero_add, Nat.mod_eq_of_lt hc]
  rw [hg]
  have hx : postmarkref02_Get.l0 k s ((i + 1 : Nat) : Int) ((i + 1 : Nat) : Int) = postmarkref02_Get.j1 (k - 1) s ((i + 1 : Nat) : Int) ((i + 1 : Nat) : Int) false := by
    obtain ⟨k, rfl⟩ : ∃ m, k = m + 1 := ⟨k - 1, by omega⟩
    simp only [postmarkref02_Get.l0]
    have : (((i + 1 : Nat) : Int) == 0) = false := by rw [beq_eq_false_iff_ne]; omega
    rw [this]
    split
    · split <;> rfl
    · rfl
  rw [hx]
  obtain ⟨k, rfl⟩ : ∃ m, k = m + 5 := ⟨k - 5, by omega⟩
  rw [show k + 5 - 1 = (k + 3) + 1 by omega]
  simp only [postmarkref02_Get.j1]
  rw [if_neg (by decide), if_neg (by omega : ¬ ((i + 1 : Nat) : Int) = 0)]
  rw [show k + 3 = (k + 2) + 1 by omega]
  simp only [postmarkref02_Get.j2]
  rw [if_neg (by decide), if_neg (by omega : ¬ ((i + 1 : Nat) : Int) = 0)]
  have hb4 : ∀ b : Bool, b = decide (0 < i ∧ (bytesL s)[i] = 0) → (i = 9 → (bytesL s)[i] ≤ 1) → postmarkref02_Get.j4 (k + 1) s ((i + 1 : Nat) : Int) b = some (tri (if 0 < i ∧ (bytesL s)[i] = 0 then (0, 0, 2) else (valL ((bytesL s).take (i + 1)), i + 1, 0))) := by
    rintro b rfl h9
    simp only [postmarkref02_Get.j4]
    by_cases h0 : 0 < i ∧ (bytesL s)[i] = 0
    · rw [if_pos (decide_eq_true h0), if_pos h0]
      rfl
    · rw [if_neg (by rw [decide_eq_true_iff]; exact h0), if_neg h0]
      refine rget_l1 s (i + 1) (by omega) (by omega) (fun h h10 => ?_) (i + 1) k 0 1 (by omega) (by omega) (fun _ => rfl)
      obtain rfl : i = 9 := by omega
      exact h9 rfl
  have hb3 : (i = 9 → (bytesL s)[i] ≤ 1) → postmarkref02_Get.j3 (k + 2) s ((i + 1 : Nat) : Int) false = some (tri (if 0 < i ∧ (bytesL s)[i] = 0 then (0, 0, 2) else (valL ((bytesL s).take (i + 1)), i + 1, 0))) := by
    intro h9
    simp only [postmarkref02_Get.j3]
    rw [if_neg (by decide)]
    by_cases h0 : 0 < i
    · have e : wrap64 (((i + 1 : Nat) : Int) - 1) = (i : Int) := by unfold wrap64; omega
      rw [if_pos (by omega : ((i + 1 : Nat) : Int) > 1), e, if_pos (by omega : 0 ≤ (i : Int)), if_pos (by omega : (i : Int) < (s.size : Int)), bt_get s i (by omega) hl]
      refine hb4 _ ?_ h9
      rw [Bool.eq_iff_iff, beq_iff_eq, decide_eq_true_iff]
      omega
    · rw [if_neg (by omega : ¬ ((i + 1 : Nat) : Int) > 1)]
      refine hb4 _ ?_ h9
      symm
      rw [decide_eq_false_iff_not]
      omega
  by_cases h9 : i = 9
  · rw [if_pos (by omega : ((i + 1 : Nat) : Int) = 10), if_pos (by omega : 9 < (s.size : Int))]
    have hbt : bt s 9 = ((bytesL s)[i] : Nat) := by
      rw [← bt_get s i (by omega) hl, h9]
      rfl
    rw [hbt]
    by_cases h1 : 1 < (bytesL s)[i]
    · rw [if_pos ⟨h9, h1⟩, decide_eq_true (by omega : (((bytesL s)[i] : Nat) : Int) > 1)]
      rw [show k + 2 = (k + 1) + 1 by omega]
      simp only [postmarkref02_Get.j3]
      rfl
    · rw [if_neg (by omega), decide_eq_false (by omega : ¬ (((bytesL s)[i] : Nat) : Int) > 1)]
      exact hb3 (fun _ => by omega)
  · rw [if_neg (by omega : ¬ ((i + 1 : Nat) : Int) = 10), if_neg (by omega)]
    exact hb3 (fun h => absurd h h9)

theorem rget_none (s : ByteArray) (k i : Nat) (hi : i = min s.size 10) (hb : ∀ q (h : q < (bytesL s).length), q < i → 128 ≤ (bytesL s)[q] ∧ (bytesL s)[q] < 256) (hk : 2 < k) :
    postmarkref02_Get.l0 k s 0 (i : Int) = some (tri (getL (bytesL s))) := by
  have hsz := bytesL_len s
  have hg : getL (bytesL s) = if s.size < 10 then (0, 0, 1) else (0, 0, 3) := by
    have h1 := go_from (bytesL s) 0 i 0 (by omega) (by omega) hb
    unfold getL
    rw [h1, Nat.zero_add]
    by_cases h : s.size < 10
    · rw [List.drop_eq_nil_of_le (by omega), if_pos h]
      simp only [goL]
      rw [if_pos (by omega)]
    · obtain rfl : i = 10 := by omega
      rw [if_neg h]
      cases (bytesL s).drop 10 with
      | nil => simp [goL]
      | cons c r => simp [goL]
  rw [hg]
  obtain ⟨k, rfl⟩ : ∃ m, k = m + 3 := ⟨k - 3, by omega⟩
  have hx : postmarkref02_Get.l0 (k + 3) s 0 (i : Int) = postmarkref02_Get.j1 (k + 2) s 0 (i : Int) false := by
    simp only [postmarkref02_Get.l0]
    split
    · rw [if_neg (by omega : ¬ (i : Int) < 10)]
    · rfl
  rw [hx, show k + 2 = (k + 1) + 1 by omega]
  simp only [postmarkref02_Get.j1]
  rw [if_neg (by decide), if_pos trivial]
  simp only [postmarkref02_Get.j2]
  by_cases h : s.size < 10
  · rw [if_neg (by rw [decide_eq_true_iff]; omega), if_pos trivial, if_pos h]
    rfl
  · rw [if_pos (decide_eq_true (by omega)), if_neg h]
    rfl

theorem rget_l0 (s : ByteArray) (d : Nat) : ∀ (k i : Nat), i + d = 10 → i ≤ s.size → (∀ q (h : q < (bytesL s).length), q < i → 128 ≤ (bytesL s)[q] ∧ (bytesL s)[q] < 256) → 25 + 2 * d < k →
    postmarkref02_Get.l0 k s 0 (i : Int) = some (tri (getL (bytesL s))) := by
  induction d with
  | zero =>
    intro k i hi hs hb hk
    exact rget_none s k i (by omega) hb (by omega)
  | succ d ih =>
    intro k i hi hs hb hk
    by_cases hlt : i < s.size
    · have hl : i < (bytesL s).length := by rw [bytesL_len]; exact hlt
      have hbi := bytesL_byte s _ (List.getElem_mem hl)
      have e4 : wrap64 ((i : Int) + 1) = ((i + 1 : Nat) : Int) := by unfold wrap64; omega
      obtain ⟨k, rfl⟩ : ∃ m, k = m + 2 := ⟨k - 2, by omega⟩
      have hx : postmarkref02_Get.l0 (k + 2) s 0 (i : Int) = postmarkref02_Get.j1 (k + 1) s 0 (i : Int) true := by
        simp only [postmarkref02_Get.l0]
        rw [if_pos (by omega : (i : Int) < (s.size : Int)), if_pos (by omega : (i : Int) < 10)]
        rfl
      rw [hx]
      simp only [postmarkref02_Get.j1]
      rw [if_pos trivial, if_pos (by omega : 0 ≤ (i : Int)), if_pos (by omega : (i : Int) < (s.size : Int)), bt_get s i hlt hl, e4]
      by_cases h128 : (bytesL s)[i] < 128
      · rw [if_pos (by omega : (((bytesL s)[i] : Nat) : Int) < 128)]
        exact rget_found s k i hl (by omega) hb h128 (by omega)
      · rw [if_neg (by omega : ¬ (((bytesL s)[i] : Nat) : Int) < 128)]
        refine ih k (i + 1) (by omega) (by omega) (fun q hq hqi => ?_) (by omega)
        by_cases hqe : q = i
        · subst hqe
          exact ⟨by omega, hbi⟩
        · exact hb q hq (by omega)
    · exact rget_none s k i (by omega) hb (by omega)
theorem rget_f (s : ByteArray) : postmarkref02_Get.f 60 s = some (tri (getL (bytesL s))) :=
  rget_l0 s 10 60 0 (by decide) (Nat.zero_le _) (fun q _ h => by omega) (by decide)
theorem rget_c (s : ByteArray) (w : World) : Calls Try.prog 32 #[.string s] w fun e w' =>
    e = .returned (.tuple #[.int .u64 ((getL (bytesL s)).1 : Int), .int .i64 ((getL (bytesL s)).2.1 : Int), .int .i64 ((getL (bytesL s)).2.2 : Int)]) ∧ Below w.heap.size w w' :=
  (postmarkref02_Get.calls 60 s _ _ _ w (rget_f s)).mono fun _ _ ⟨he, hd⟩ => ⟨he, hd.below⟩
end Go.Proofs.Ytmgjeoemnmcjoaa.GVarintReads
