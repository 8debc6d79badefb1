/-
  The document's Get, walked: what it answers is the plain list's getL. For every text.
-/
import Derived.Test.YtmgjeoemnmcjoaaHGet
import Derived.Test.YtmgjeoemnmcjoaaVal
namespace Go.Proofs.Ytmgjeoemnmcjoaa
open Go.RowKit

/-- The first i bytes are 128 or more. -/
def Great (s : ByteArray) (i : Nat) : Prop := ∀ q (h : q < s.size), q < i → 128 ≤ s[q].toNat
theorem Great.go {s : ByteArray} {i : Nat} (h : Great s i) (hs : i ≤ s.size) (h10 : i ≤ 10) : getL (bytesL s) = goL i (valL ((bytesL s).take i)) ((bytesL s).drop i) := by
  have hsz := bytesL_len s
  have h1 := go_from (bytesL s) 0 i 0 (by omega) (by omega) (fun q hq hqi => by
    rw [bytesL_get s q (by omega) hq]
    exact ⟨h q (by omega) hqi, s[q].toNat_lt⟩)
  unfold getL
  rw [h1, Nat.zero_add, Nat.zero_add, Nat.pow_zero, Nat.mul_one]
theorem Great.none {s : ByteArray} {i : Nat} (h : Great s i) (hi : i = min s.size 10) : getL (bytesL s) = if 10 ≤ s.size then (0, 0, 3) else (0, 0, 1) := by
  rw [h.go (by omega) (by omega)]
  have hsz := bytesL_len s
  by_cases h10 : 10 ≤ s.size
  · obtain rfl : i = 10 := by omega
    rw [if_pos h10]
    cases (bytesL s).drop 10 with
    | nil => simp [goL]
    | cons c r => simp [goL]
  · rw [if_neg h10, List.drop_eq_nil_of_le (by omega)]
    simp only [goL]
    rw [if_pos (by omega)]
theorem Great.found {s : ByteArray} {j : Nat} (h : Great s j) (hs : j < s.size) (h10 : j < 10) (hc : s[j].toNat < 128) :
    getL (bytesL s) = if j = 9 ∧ 1 < s[j].toNat then (0, 0, 3) else if 0 < j ∧ s[j].toNat = 0 then (0, 0, 2) else (valL ((bytesL s).take (j + 1)), j + 1, 0) := by
  have hl : j < (bytesL s).length := by rw [bytesL_len]; exact hs
  have h2 : valL ((bytesL s).take (j + 1)) = valL ((bytesL s).take j) + s[j].toNat * 128 ^ j := by
    rw [List.take_succ_eq_append_getElem hl, valL_snoc, List.length_take, Nat.min_eq_left (by omega), bytesL_get s j hs hl, Nat.mod_eq_of_lt hc]
  rw [h.go (by omega) (by omega), byte_at s j hs, h2]
  simp only [goL]
  rw [if_neg (by omega), if_neg (by omega)]
/-- The sum so far. -/
structure SumS (s : ByteArray) (m j : Nat) (n u : Int) : Prop where
  le : j ≤ m
  sum : n = (valL ((bytesL s).take j) : Nat)
  unit : j < m → u = ((128 ^ j : Nat) : Int)
theorem SumS.next {s : ByteArray} {m j : Nat} {n u : Int} (h : SumS s m j n u) (hm : m ≤ s.size) (h10 : m ≤ 10) (hlast : ∀ h : 9 < s.size, m = 10 → s[9].toNat ≤ 1) (hj : j < m) :
    SumS s m (j + 1) (IntKind.u64.wrap (n + IntKind.u64.wrap ((s[j].toNat : Int) % 128 * u))) (IntKind.u64.wrap (u * 128)) := by
  obtain ⟨_, rfl, hu⟩ := h
  obtain rfl := hu hj
  have hl : j < (bytesL s).length := by rw [bytesL_len]; omega
  have hv : valL ((bytesL s).take (j + 1)) = valL ((bytesL s).take j) + s[j].toNat % 128 * 128 ^ j := by
    rw [List.take_succ_eq_append_getElem hl, valL_snoc, List.length_take, Nat.min_eq_left (by omega), bytesL_get s j (by omega) hl]
  have hlt := valL_lt ((bytesL s).take j)
  rw [List.length_take, Nat.min_eq_left (by omega)] at hlt
  have h9 : j = 9 → s[j].toNat ≤ 1 := by
    rintro rfl
    exact hlast (by omega) (by omega)
  have hb := s[j].toNat_lt
  generalize s[j].toNat = c at hv h9 hb ⊢
  have hsum : valL ((bytesL s).take j) + c % 128 * 128 ^ j < 2 ^ 64 := by
    by_cases h : j = 9
    · have h1 := h9 h
      subst h
      have h2 : c % 128 * 128 ^ 9 ≤ 1 * 128 ^ 9 := Nat.mul_le_mul_right _ (by omega)
      have h3 : (2 : Nat) ^ 64 = 2 * 128 ^ 9 := by decide
      omega
    · have h1 : 128 ^ j ≤ 128 ^ 8 := Nat.pow_le_pow_right (by decide) (by omega)
      have h2 : c % 128 * 128 ^ j ≤ 127 * 128 ^ j := Nat.mul_le_mul_right _ (by omega)
      have h3 : (2 : Nat) ^ 64 = 2 * (128 * 128 ^ 8) := by decide
      omega
  refine ⟨hj, ?_, fun h => ?_⟩
  · have e1 : (c : Int) % 128 * ((128 ^ j : Nat) : Int) = ((c % 128 * 128 ^ j : Nat) : Int) := by rw [Int.natCast_mul]; rfl
    rw [e1, wraps_u64 _ (Int.natCast_nonneg _) (by exact_mod_cast (by omega : c % 128 * 128 ^ j < 2 ^ 64)), hv, ← Int.natCast_add, wraps_u64 _ (Int.natCast_nonneg _) (by exact_mod_cast hsum)]
  · have h1 : 128 ^ (j + 1) ≤ 128 ^ 9 := Nat.pow_le_pow_right (by decide) (by omega)
    have h2 : (128 : Nat) ^ 9 < 2 ^ 64 := by decide
    have e5 : ((128 ^ j : Nat) : Int) * 128 = ((128 ^ (j + 1) : Nat) : Int) := by rw [pow128]; omega
    rw [e5, wraps_u64 _ (Int.natCast_nonneg _) (by exact_mod_cast (by omega : 128 ^ (j + 1) < 2 ^ 64))]
/-- The search: the size z is not yet found, or the byte before i is the first below 128. -/
structure SeekS (s : ByteArray) (z i : Nat) : Prop where
  here : (z = 0 ∧ Great s i ∧ i ≤ min s.size 10) ∨ (z = i ∧ ∃ j, i = j + 1 ∧ Great s j ∧ j < min s.size 10 ∧ ∃ h : j < s.size, s[j].toNat < 128)
theorem SeekS.yes {s : ByteArray} {i : Nat} (h : Great s i) (hs : i < s.size) (h10 : i < 10) (hc : s[i].toNat < 128) : SeekS s (i + 1) (i + 1) := ⟨.inr ⟨rfl, i, rfl, h, by omega, hs, hc⟩⟩
theorem SeekS.no {s : ByteArray} {i : Nat} (h : Great s i) (hs : i < s.size) (h10 : i < 10) (hc : ¬ s[i].toNat < 128) : SeekS s 0 (i + 1) := ⟨.inl ⟨rfl, fun q hq hqi => by
  by_cases e : q = i
  · subst e
    omega
  · exact h q hq (by omega), by omega⟩⟩
set_option maxRecDepth 100000 in
set_option maxHeartbeats 8000000 in
theorem rget_walk (s : ByteArray) (w : World) (L : Nat × Nat × Nat) (hs : s.size ≤ 9223372036854775807) (hL : getL (bytesL s) = L) : Calls Try.prog 32 #[.string s] w fun e w' =>
    e = .returned (.tuple #[.int .u64 (L.1 : Int), .int .i64 (L.2.1 : Int), .int .i64 (L.2.2 : Int)]) ∧ w' = w := by
  have h0 : SeekS s 0 0 := ⟨.inl ⟨rfl, fun q _ h => by omega, Nat.zero_le _⟩⟩
  have HL := Lib.hid hL
  clear hL
  go_enter Try.func32, Try.ntmps32
  go_wp2
  go_loop [5, 6] (fun v5 v6 => ∃ z i : Nat, v5 = .int .i64 z ∧ v6 = .int .i64 i ∧ SeekS s z i) (fun _ v => 11 - (intOf v).toNat)
  case atStart => exact ⟨0, 0, rfl, rfl, h0⟩
  case round =>
    obtain ⟨z, i, rfl, rfl, hst⟩ := hrel
    clear h0
    rcases hst.here with ⟨rfl, hgr, hle⟩ | ⟨rfl, j, hj, hgr, hlt, hjs, hc⟩
    · clear hst
      by_cases h1 : i < s.size
      · by_cases h2 : i < 10
        · by_cases h3 : s[i].toNat < 128
          · have hnx := SeekS.yes hgr h1 h2 h3
            go_wp2
            go_round
            case rel => exact ⟨i + 1, i + 1, by go_num, by go_num, hnx⟩
            case measure => simp [intOf]; omega
          · have hnx := SeekS.no hgr h1 h2 h3
            go_wp2
            go_round
            case rel => exact ⟨0, i + 1, rfl, by go_num, hnx⟩
            case measure => simp [intOf]; omega
        · have hn := hgr.none (by omega)
          rw [if_pos (by omega), HL.out] at hn
          have HN := Lib.hid hn
          have h10 : 10 ≤ s.size := by omega
          clear hn hgr
          go_wp2
          go_ret3
          exact ⟨res3 HN.out, rfl⟩
      · have hn := hgr.none (by omega)
        rw [HL.out] at hn
        by_cases h10 : 10 ≤ s.size
        · rw [if_pos h10] at hn
          have HN := Lib.hid hn
          clear hn hgr
          go_wp2
          go_ret3
          exact ⟨res3 HN.out, rfl⟩
        · rw [if_neg h10] at hn
          have HN := Lib.hid hn
          clear hn hgr
          go_wp2
          go_ret3
          exact ⟨res3 HN.out, rfl⟩
    · clear hst
      have hf := hgr.found hjs (by omega) hc
      rw [HL.out] at hf
      have HF := Lib.hid hf
      clear hf hgr
      subst hj
      have hz : (((j : Int) + 1) == 0) = false := by rw [beq_eq_false_iff_ne]; omega
      have hj10 : j < 10 := by omega
      have hcases : (j + 1 < s.size ∧ j + 1 < 10) ∨ (j + 1 < s.size ∧ ¬ j + 1 < 10) ∨ ¬ j + 1 < s.size := by omega
      clear hlt
      rcases hcases with ⟨g1, g2⟩ | ⟨g1, g2⟩ | g1
      · by_cases h9 : j = 9
        · omega
        · have b10 : (((j : Int) + 1) == 10) = false := by rw [beq_eq_false_iff_ne]; omega
          by_cases k2 : 0 < j
          · by_cases k0 : s[j].toNat = 0
            · have hl : L = (0, 0, 2) := by rw [HF.out, if_neg (by omega), if_pos ⟨k2, k0⟩]
              have HLL := Lib.hid hl
              have bz : ((s[j].toNat : Int) == 0) = true := by rw [beq_iff_eq]; omega
              clear hl k0 h9
              go_wp2
              go_ret3
              exact ⟨res3 HLL.out, rfl⟩
            · have hl : L = (valL ((bytesL s).take (j + 1)), j + 1, 0) := by rw [HF.out, if_neg (by omega), if_neg (by omega)]
              have HLL := Lib.hid hl
              have bz : ((s[j].toNat : Int) == 0) = false := by rw [beq_eq_false_iff_ne]; omega
              clear hl k0
              go_wp2
              go_loop [7, 8, 9] (fun v7 v8 v9 => ∃ (q : Nat) (n u : Int), v7 = .int .u64 n ∧ v8 = .int .u64 u ∧ v9 = .int .i64 q ∧ SumS s (j + 1) q n u) (fun _ _ v => (j + 1) - (intOf v).toNat)
              case atStart => exact ⟨0, 0, 1, rfl, rfl, rfl, Nat.zero_le _, rfl, fun _ => rfl⟩
              case round =>
                obtain ⟨q, n, u, rfl, rfl, rfl, hsm⟩ := hrel
                by_cases hq : q < j + 1
                · have hqs : q < s.size := by omega
                  have hnx := hsm.next (by omega) (by omega) (fun _ _ => by omega) hq
                  have HNX := Lib.hid hnx
                  clear hnx hsm
                  go_wp2
                  go_round
                  case rel => exact ⟨q + 1, _, _, rfl, rfl, by go_num, HNX.out⟩
                  case measure => simp [intOf]; omega
                · obtain rfl : q = j + 1 := by have := hsm.le; omega
                  obtain ⟨_, rfl, _⟩ := hsm
                  go_wp2
                  go_ret3
                  exact ⟨res3 HLL.out, rfl⟩
          · have hl : L = (valL ((bytesL s).take (j + 1)), j + 1, 0) := by rw [HF.out, if_neg (by omega), if_neg (by omega)]
            have HLL := Lib.hid hl
            clear hl
            go_wp2
            go_loop [7, 8, 9] (fun v7 v8 v9 => ∃ (q : Nat) (n u : Int), v7 = .int .u64 n ∧ v8 = .int .u64 u ∧ v9 = .int .i64 q ∧ SumS s (j + 1) q n u) (fun _ _ v => (j + 1) - (intOf v).toNat)
            case atStart => exact ⟨0, 0, 1, rfl, rfl, rfl, Nat.zero_le _, rfl, fun _ => rfl⟩
            case round =>
              obtain ⟨q, n, u, rfl, rfl, rfl, hsm⟩ := hrel
              by_cases hq : q < j + 1
              · have hqs : q < s.size := by omega
                have hnx := hsm.next (by omega) (by omega) (fun _ _ => by omega) hq
                have HNX := Lib.hid hnx
                clear hnx hsm
                go_wp2
                go_round
                case rel => exact ⟨q + 1, _, _, rfl, rfl, by go_num, HNX.out⟩
                case measure => simp [intOf]; omega
              · obtain rfl : q = j + 1 := by have := hsm.le; omega
                obtain ⟨_, rfl, _⟩ := hsm
                go_wp2
                go_ret3
                exact ⟨res3 HLL.out, rfl⟩
      · by_cases h9 : j = 9
        · subst h9
          by_cases k1 : 1 < s[9].toNat
          · have hl : L = (0, 0, 3) := by rw [HF.out, if_pos ⟨rfl, k1⟩]
            have HLL := Lib.hid hl
            clear hl
            go_wp2
            go_ret3
            exact ⟨res3 HLL.out, rfl⟩
          · by_cases k0 : s[9].toNat = 0
            · have hl : L = (0, 0, 2) := by rw [HF.out, if_neg (by omega), if_pos ⟨by decide, k0⟩]
              have HLL := Lib.hid hl
              have bz : ((s[9].toNat : Int) == 0) = true := by rw [beq_iff_eq]; omega
              clear hl k0
              go_wp2
              go_ret3
              exact ⟨res3 HLL.out, rfl⟩
            · have hl : L = (valL ((bytesL s).take (9 + 1)), 9 + 1, 0) := by rw [HF.out, if_neg (by omega), if_neg (by omega)]
              have HLL := Lib.hid hl
              have bz : ((s[9].toNat : Int) == 0) = false := by rw [beq_eq_false_iff_ne]; omega
              clear hl k0
              go_wp2
              go_loop [7, 8, 9] (fun v7 v8 v9 => ∃ (q : Nat) (n u : Int), v7 = .int .u64 n ∧ v8 = .int .u64 u ∧ v9 = .int .i64 q ∧ SumS s (9 + 1) q n u) (fun _ _ v => (9 + 1) - (intOf v).toNat)
              case atStart => exact ⟨0, 0, 1, rfl, rfl, rfl, Nat.zero_le _, rfl, fun _ => rfl⟩
              case round =>
                obtain ⟨q, n, u, rfl, rfl, rfl, hsm⟩ := hrel
                by_cases hq : q < 9 + 1
                · have hqs : q < s.size := by omega
                  have hnx := hsm.next (by omega) (by omega) (fun _ _ => by omega) hq
                  have HNX := Lib.hid hnx
                  clear hnx hsm
                  go_wp2
                  go_round
                  case rel => exact ⟨q + 1, _, _, rfl, rfl, by go_num, HNX.out⟩
                  case measure => simp [intOf]; omega
                · obtain rfl : q = 9 + 1 := by have := hsm.le; omega
                  obtain ⟨_, rfl, _⟩ := hsm
                  go_wp2
                  go_ret3
                  exact ⟨res3 HLL.out, rfl⟩
        · omega
      · by_cases h9 : j = 9
        · subst h9
          by_cases k1 : 1 < s[9].toNat
          · have hl : L = (0, 0, 3) := by rw [HF.out, if_pos ⟨rfl, k1⟩]
            have HLL := Lib.hid hl
            clear hl
            go_wp2
            go_ret3
            exact ⟨res3 HLL.out, rfl⟩
          · by_cases k0 : s[9].toNat = 0
            · have hl : L = (0, 0, 2) := by rw [HF.out, if_neg (by omega), if_pos ⟨by decide, k0⟩]
              have HLL := Lib.hid hl
              have bz : ((s[9].toNat : Int) == 0) = true := by rw [beq_iff_eq]; omega
              clear hl k0
              go_wp2
              go_ret3
              exact ⟨res3 HLL.out, rfl⟩
            · have hl : L = (valL ((bytesL s).take (9 + 1)), 9 + 1, 0) := by rw [HF.out, if_neg (by omega), if_neg (by omega)]
              have HLL := Lib.hid hl
              have bz : ((s[9].toNat : Int) == 0) = false := by rw [beq_eq_false_iff_ne]; omega
              clear hl k0
              go_wp2
              go_loop [7, 8, 9] (fun v7 v8 v9 => ∃ (q : Nat) (n u : Int), v7 = .int .u64 n ∧ v8 = .int .u64 u ∧ v9 = .int .i64 q ∧ SumS s (9 + 1) q n u) (fun _ _ v => (9 + 1) - (intOf v).toNat)
              case atStart => exact ⟨0, 0, 1, rfl, rfl, rfl, Nat.zero_le _, rfl, fun _ => rfl⟩
              case round =>
                obtain ⟨q, n, u, rfl, rfl, rfl, hsm⟩ := hrel
                by_cases hq : q < 9 + 1
                · have hqs : q < s.size := by omega
                  have hnx := hsm.next (by omega) (by omega) (fun _ _ => by omega) hq
                  have HNX := Lib.hid hnx
                  clear hnx hsm
                  go_wp2
                  go_round
                  case rel => exact ⟨q + 1, _, _, rfl, rfl, by go_num, HNX.out⟩
                  case measure => simp [intOf]; omega
                · obtain rfl : q = 9 + 1 := by have := hsm.le; omega
                  obtain ⟨_, rfl, _⟩ := hsm
                  go_wp2
                  go_ret3
                  exact ⟨res3 HLL.out, rfl⟩
        · have b10 : (((j : Int) + 1) == 10) = false := by rw [beq_eq_false_iff_ne]; omega
          by_cases k2 : 0 < j
          · by_cases k0 : s[j].toNat = 0
            · have hl : L = (0, 0, 2) := by rw [HF.out, if_neg (by omega), if_pos ⟨k2, k0⟩]
              have HLL := Lib.hid hl
              have bz : ((s[j].toNat : Int) == 0) = true := by rw [beq_iff_eq]; omega
              clear hl k0 h9
              go_wp2
              go_ret3
              exact ⟨res3 HLL.out, rfl⟩
            · have hl : L = (valL ((bytesL s).take (j + 1)), j + 1, 0) := by rw [HF.out, if_neg (by omega), if_neg (by omega)]
              have HLL := Lib.hid hl
              have bz : ((s[j].toNat : Int) == 0) = false := by rw [beq_eq_false_iff_ne]; omega
              clear hl k0
              go_wp2
              go_loop [7, 8, 9] (fun v7 v8 v9 => ∃ (q : Nat) (n u : Int), v7 = .int .u64 n ∧ v8 = .int .u64 u ∧ v9 = .int .i64 q ∧ SumS s (j + 1) q n u) (fun _ _ v => (j + 1) - (intOf v).toNat)
              case atStart => exact ⟨0, 0, 1, rfl, rfl, rfl, Nat.zero_le _, rfl, fun _ => rfl⟩
              case round =>
                obtain ⟨q, n, u, rfl, rfl, rfl, hsm⟩ := hrel
                by_cases hq : q < j + 1
                · have hqs : q < s.size := by omega
                  have hnx := hsm.next (by omega) (by omega) (fun _ _ => by omega) hq
                  have HNX := Lib.hid hnx
                  clear hnx hsm
                  go_wp2
                  go_round
                  case rel => exact ⟨q + 1, _, _, rfl, rfl, by go_num, HNX.out⟩
                  case measure => simp [intOf]; omega
                · obtain rfl : q = j + 1 := by have := hsm.le; omega
                  obtain ⟨_, rfl, _⟩ := hsm
                  go_wp2
                  go_ret3
                  exact ⟨res3 HLL.out, rfl⟩
          · have hl : L = (valL ((bytesL s).take (j + 1)), j + 1, 0) := by rw [HF.out, if_neg (by omega), if_neg (by omega)]
            have HLL := Lib.hid hl
            clear hl
            go_wp2
            go_loop [7, 8, 9] (fun v7 v8 v9 => ∃ (q : Nat) (n u : Int), v7 = .int .u64 n ∧ v8 = .int .u64 u ∧ v9 = .int .i64 q ∧ SumS s (j + 1) q n u) (fun _ _ v => (j + 1) - (intOf v).toNat)
            case atStart => exact ⟨0, 0, 1, rfl, rfl, rfl, Nat.zero_le _, rfl, fun _ => rfl⟩
            case round =>
              obtain ⟨q, n, u, rfl, rfl, rfl, hsm⟩ := hrel
              by_cases hq : q < j + 1
              · have hqs : q < s.size := by omega
                have hnx := hsm.next (by omega) (by omega) (fun _ _ => by omega) hq
                have HNX := Lib.hid hnx
                clear hnx hsm
                go_wp2
                go_round
                case rel => exact ⟨q + 1, _, _, rfl, rfl, by go_num, HNX.out⟩
                case measure => simp [intOf]; omega
              · obtain rfl : q = j + 1 := by have := hsm.le; omega
                obtain ⟨_, rfl, _⟩ := hsm
                go_wp2
                go_ret3
                exact ⟨res3 HLL.out, rfl⟩
theorem rget_hand (s : ByteArray) (w : World) (hs : s.size ≤ 9223372036854775807) : Calls Try.prog 32 #[.string s] w fun e w' =>
    e = .returned (.tuple #[.int .u64 ((getL (bytesL s)).1 : Int), .int .i64 ((getL (bytesL s)).2.1 : Int), .int .i64 ((getL (bytesL s)).2.2 : Int)]) ∧ Below w.heap.size w w' :=
  (rget_walk s w _ hs rfl).mono fun _ _ ⟨he, hw⟩ => ⟨he, by rw [hw]; exact Below.refl _ _⟩
end Go.Proofs.Ytmgjeoemnmcjoaa
