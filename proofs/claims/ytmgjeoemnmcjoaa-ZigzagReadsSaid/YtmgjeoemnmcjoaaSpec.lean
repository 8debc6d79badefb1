/-
  Numbers by seven bits, in plain lists: what is written, what is read, and that each number has just one writing.
-/
namespace Go.Proofs.Ytmgjeoemnmcjoaa

/-- A number as it is written. -/
def putF : Nat → Nat → List Nat
  | 0, n => [n]
  | f + 1, n => if n < 128 then [n] else (n % 128 + 128) :: putF f (n / 128)
def putL (n : Nat) : List Nat := putF n n

/-- The number that a text begins with, from the i-th byte on, a read so far: the number, in how many bytes, the error. -/
def goL : Nat → Nat → List Nat → Nat × Nat × Nat
  | i, _, [] => if i < 10 then (0, 0, 1) else (0, 0, 3)
  | i, a, c :: r => if i = 10 then (0, 0, 3) else if 128 ≤ c then goL (i + 1) (a + (c - 128) * 128 ^ i) r
    else if i = 9 ∧ 1 < c then (0, 0, 3) else if 0 < i ∧ c = 0 then (0, 0, 2) else (a + c * 128 ^ i, i + 1, 0)
def getL (l : List Nat) : Nat × Nat × Nat := goL 0 0 l

theorem putF_small (f : Nat) {n : Nat} (h : n < 128) : putF f n = [n] := by
  cases f with
  | zero => rfl
  | succ f => simp only [putF]; rw [if_pos h]
theorem putF_same (f : Nat) : ∀ g n, n ≤ f → n ≤ g → putF f n = putF g n := by
  induction f with
  | zero =>
    intro g n h _
    rw [putF_small 0 (by omega), putF_small g (by omega)]
  | succ f ih =>
    intro g n h1 h2
    by_cases h : n < 128
    · rw [putF_small _ h, putF_small _ h]
    · obtain ⟨g, rfl⟩ : ∃ m, g = m + 1 := ⟨g - 1, by omega⟩
      simp only [putF]
      rw [if_neg h, if_neg h, ih g (n / 128) (by omega) (by omega)]
theorem putL_small {n : Nat} (h : n < 128) : putL n = [n] := putF_small n h
theorem putL_big {n : Nat} (h : ¬ n < 128) : putL n = (n % 128 + 128) :: putL (n / 128) := by
  obtain ⟨m, rfl⟩ : ∃ m, n = m + 1 := ⟨n - 1, by omega⟩
  unfold putL
  conv => lhs; simp only [putF]
  rw [if_neg h, putF_same m ((m + 1) / 128) ((m + 1) / 128) (by omega) (Nat.le_refl _)]
theorem putL_pos (n : Nat) : 0 < (putL n).length := by
  by_cases h : n < 128
  · rw [putL_small h]; simp
  · rw [putL_big h]; simp
theorem putL_byte (n : Nat) : ∀ c ∈ putL n, c < 256 := by
  induction n using Nat.strongRecOn with
  | ind n ih =>
    by_cases h : n < 128
    · rw [putL_small h]
      intro c hc
      simp at hc
      omega
    · rw [putL_big h]
      intro c hc
      simp only [List.mem_cons] at hc
      rcases hc with rfl | hc
      · omega
      · exact ih (n / 128) (by omega) c hc
/-- How long: as many sevens of bits as the number has. -/
theorem putL_len (j : Nat) : ∀ n, n < 128 ^ (j + 1) → (putL n).length ≤ j + 1 := by
  induction j with
  | zero =>
    intro n h
    rw [putL_small (by simpa using h)]
    simp
  | succ j ih =>
    intro n h
    by_cases hn : n < 128
    · rw [putL_small hn]
      simp
    · rw [putL_big hn]
      have : n / 128 < 128 ^ (j + 1) := by
        rw [Nat.div_lt_iff_lt_mul (by decide)]
        rw [Nat.pow_succ] at h
        exact h
      have := ih _ this
      simp
      omega
theorem putL_ten {n : Nat} (h : n < 2 ^ 64) : (putL n).length ≤ 10 := putL_len 9 n (Nat.lt_trans h (by decide))

theorem pow128 (i : Nat) : 128 ^ (i + 1) = 128 * 128 ^ i := by rw [Nat.pow_succ, Nat.mul_comm]

/-- What is written is read, whatever stands behind it. -/
theorem go_put (l : List Nat) (m : Nat) : ∀ i a, m * 128 ^ i < 2 ^ 64 → (0 < i → 0 < m) → goL i a (putL m ++ l) = (a + m * 128 ^ i, i + (putL m).length, 0) := by
  induction m using Nat.strongRecOn with
  | ind m ih =>
    intro i a hb hm
    have hi : m ≠ 0 → i ≤ 9 := by
      intro h0
      apply Nat.le_of_not_lt
      intro hlt
      have h1 : 128 ^ 10 ≤ 128 ^ i := Nat.pow_le_pow_right (by decide) hlt
      have h2 : 128 ^ i ≤ m * 128 ^ i := Nat.le_mul_of_pos_left _ (Nat.pos_of_ne_zero h0)
      have h3 : (2 : Nat) ^ 64 < 128 ^ 10 := by decide
      omega
    have hi9 : i ≤ 9 := by
      by_cases h0 : m = 0
      · by_cases hz : 0 < i
        · have := hm hz
          omega
        · omega
      · exact hi h0
    by_cases h : m < 128
    · rw [putL_small h]
      simp only [List.singleton_append, goL, List.length_singleton]
      rw [if_neg (by omega), if_neg (by omega), if_neg, if_neg]
      · rintro ⟨h1, h2⟩
        have := hm h1
        omega
      · rintro ⟨rfl, h2⟩
        have : 2 * 128 ^ 9 ≤ m * 128 ^ 9 := Nat.mul_le_mul_right _ h2
        have h3 : (2 : Nat) ^ 64 = 2 * 128 ^ 9 := by decide
        omega
    · rw [putL_big h]
      simp only [List.cons_append, goL, List.length_cons]
      rw [if_neg (by omega), if_pos (by omega)]
      have hq : m / 128 * 128 ^ (i + 1) + m % 128 * 128 ^ i = m * 128 ^ i := by
        rw [pow128, ← Nat.mul_assoc, ← Nat.add_mul, Nat.mul_comm (m / 128) 128, Nat.div_add_mod]
      rw [ih (m / 128) (by omega) (i + 1) _ (by omega) (by omega)]
      rw [show m % 128 + 128 - 128 = m % 128 by omega]
      refine Prod.ext (by simp only; omega) (Prod.ext (by simp only; omega) rfl)
theorem get_put (n : Nat) (l : List Nat) (h : n < 2 ^ 64) : getL (putL n ++ l) = (n, (putL n).length, 0) := by
  have := go_put l n 0 0 (by simpa using h) (by simp)
  simpa [getL] using this

/-- Cut, it is too short. -/
theorem go_cut' (m : Nat) : ∀ i a j, j < (putL m).length → i + j < 10 → goL i a ((putL m).take j) = (0, 0, 1) := by
  induction m using Nat.strongRecOn with
  | ind m ih =>
    intro i a j hj h10
    cases j with
    | zero => simp only [List.take_zero, goL]; rw [if_pos (by omega)]
    | succ j =>
      have h : ¬ m < 128 := by
        intro h
        rw [putL_small h] at hj
        simp at hj
      rw [putL_big h] at hj ⊢
      simp only [List.length_cons] at hj
      simp only [List.take_succ_cons, goL]
      rw [if_neg (by omega), if_pos (by omega)]
      exact ih (m / 128) (by omega) (i + 1) _ j (by omega) (by omega)
theorem get_cut (n j : Nat) (h : n < 2 ^ 64) (hj : j < (putL n).length) : getL ((putL n).take j) = (0, 0, 1) :=
  go_cut' n 0 0 j hj (by have := putL_ten h; omega)

/-- What is read would be written so. -/
theorem go_back (l : List Nat) : ∀ i a, (∀ c ∈ l, c < 256) → (goL i a l).2.2 = 0 →
    ∃ q, (goL i a l).1 = a + q * 128 ^ i ∧ i < (goL i a l).2.1 ∧ (goL i a l).2.1 ≤ i + l.length ∧ putL q = l.take ((goL i a l).2.1 - i) ∧ (0 < i → 0 < q) := by
  induction l with
  | nil =>
    intro i a _ h
    simp only [goL] at h
    split at h <;> simp at h
  | cons c r ih =>
    intro i a hb h
    have hc := hb c (by simp)
    simp only [goL] at h ⊢
    by_cases h1 : i = 10
    · rw [if_pos h1] at h
      simp at h
    rw [if_neg h1] at h ⊢
    by_cases h2 : 128 ≤ c
    · rw [if_pos h2] at h ⊢
      obtain ⟨q, e1, e2, e3, e4, e5⟩ := ih (i + 1) _ (fun c hc => hb c (by simp [hc])) h
      have hq := e5 (by omega)
      refine ⟨(c - 128) + 128 * q, ?_, by omega, by simp only [List.length_cons]; omega, ?_, by omega⟩
      · rw [e1, pow128, Nat.add_mul]
        rw [show q * (128 * 128 ^ i) = 128 * q * 128 ^ i by rw [← Nat.mul_assoc, Nat.mul_comm q 128]]
        omega
      · rw [putL_big (by omega), show (c - 128 + 128 * q) / 128 = q by omega, show (c - 128 + 128 * q) % 128 + 128 = c by omega, e4]
        rw [show (goL (i + 1) (a + (c - 128) * 128 ^ i) r).2.1 - i = ((goL (i + 1) (a + (c - 128) * 128 ^ i) r).2.1 - (i + 1)) + 1 by omega, List.take_succ_cons]
    · rw [if_neg h2] at h ⊢
      by_cases h3 : i = 9 ∧ 1 < c
      · rw [if_pos h3] at h
        simp at h
      rw [if_neg h3] at h ⊢
      by_cases h4 : 0 < i ∧ c = 0
      · rw [if_pos h4] at h
        simp at h
      rw [if_neg h4]
      refine ⟨c, rfl, by simp, by simp, ?_, by omega⟩
      rw [putL_small (by omega), show i + 1 - i = 1 by omega]
      rfl
theorem get_back (l : List Nat) (hb : ∀ c ∈ l, c < 256) (h : (getL l).2.2 = 0) : (getL l).2.1 ≤ l.length ∧ putL (getL l).1 = l.take (getL l).2.1 := by
  obtain ⟨q, e1, _, e3, e4, _⟩ := go_back l 0 0 hb h
  unfold getL
  refine ⟨by simpa using e3, ?_⟩
  rw [e1]
  simpa using e4
theorem get_pos (l : List Nat) (hb : ∀ c ∈ l, c < 256) (h : (getL l).2.2 = 0) : 0 < (getL l).2.1 := by
  obtain ⟨q, _, e2, _, _, _⟩ := go_back l 0 0 hb h
  exact e2

/-- Where there is no number: 0, 0; and the error's number is small. -/
theorem go_err (l : List Nat) : ∀ i a, (goL i a l).2.2 ≠ 0 → goL i a l = (0, 0, (goL i a l).2.2) := by
  induction l with
  | nil => intro i a _; simp only [goL]; split <;> rfl
  | cons c r ih =>
    intro i a h
    simp only [goL] at h ⊢
    split
    · rfl
    · rename_i h1
      rw [if_neg h1] at h
      split
      · rename_i h2
        rw [if_pos h2] at h
        exact ih _ _ h
      · rename_i h2
        rw [if_neg h2] at h
        split
        · rfl
        · rename_i h3
          rw [if_neg h3] at h
          split
          · rfl
          · rename_i h4
            rw [if_neg h4] at h
            exact absurd rfl h
theorem get_err (l : List Nat) (h : (getL l).2.2 ≠ 0) : getL l = (0, 0, (getL l).2.2) := go_err l 0 0 h
theorem get_le (l : List Nat) (hb : ∀ c ∈ l, c < 256) : (getL l).2.1 ≤ l.length := by
  by_cases h : (getL l).2.2 = 0
  · exact (get_back l hb h).1
  · rw [get_err l h]
    simp

/-- What is read is a number of 64 bits. -/
theorem go_lt (l : List Nat) : ∀ i a, i ≤ 10 → a < 128 ^ i → (∀ c ∈ l, c < 256) → (goL i a l).1 < 2 ^ 64 := by
  induction l with
  | nil => intro i a _ _ _; simp only [goL]; split <;> simp
  | cons c r ih =>
    intro i a hi ha hb
    have hc := hb c (by simp)
    simp only [goL]
    split
    · simp
    split
    · rename_i h1 h2
      refine ih (i + 1) _ (by omega) ?_ (fun c hc => hb c (by simp [hc]))
      have h3 : (c - 128) * 128 ^ i ≤ 127 * 128 ^ i := Nat.mul_le_mul_right _ (by omega)
      have h4 : 128 ^ (i + 1) = 128 * 128 ^ i := pow128 i
      omega
    split
    · simp
    split
    · simp
    rename_i h1 h2 h3 h4
    simp only
    by_cases h9 : i = 9
    · subst h9
      have h5 : c * 128 ^ 9 ≤ 1 * 128 ^ 9 := Nat.mul_le_mul_right _ (by omega)
      have h6 : (2 : Nat) ^ 64 = 2 * 128 ^ 9 := by decide
      omega
    · have h5 : c * 128 ^ i ≤ 127 * 128 ^ i := Nat.mul_le_mul_right _ (by omega)
      have h6 : 128 * 128 ^ i ≤ 128 ^ 9 := by rw [← pow128]; exact Nat.pow_le_pow_right (by decide) (by omega)
      have h7 : (128 : Nat) ^ 9 < 2 ^ 64 := by decide
      omega
theorem get_lt (l : List Nat) (hb : ∀ c ∈ l, c < 256) : (getL l).1 < 2 ^ 64 := go_lt l 0 0 (by decide) (by decide) hb
end Go.Proofs.Ytmgjeoemnmcjoaa
