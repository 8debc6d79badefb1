/-
  varint.Get, walked: what it answers is the plain list's getL. For every text.
-/
import Derived.Test.YtmgjeoemnmcjoaaAwb
namespace Go.Proofs.Ytmgjeoemnmcjoaa
open Go.RowKit

theorem byte_at (s : ByteArray) (i : Nat) (h : i < s.size) : (bytesL s).drop i = s[i].toNat :: (bytesL s).drop (i + 1) := by
  have hl : i < (bytesL s).length := by rw [bytesL_len]; exact h
  rw [List.drop_eq_getElem_cons hl, bytesL_get s i h hl]
/-- The state at a round's head: i bytes of 128 and more stand behind us. -/
structure GetS (s : ByteArray) (L : Nat × Nat × Nat) (i : Nat) (X : Int) : Prop where
  le : i ≤ min s.size 10
  here : (i < 10 ∧ ∃ a : Nat, X = a ∧ a < 128 ^ i ∧ goL i a ((bytesL s).drop i) = L) ∨ (i = 10 ∧ L = (0, 0, 3))
theorem wrap_shift (c i : Nat) (h : c * 128 ^ i < 2 ^ 64) : IntKind.u64.wrap ((c : Int) * 2 ^ (7 * i)) = ((c * 128 ^ i : Nat) : Int) := by
  have h2 : ((c : Int) * 2 ^ (7 * i)) = ((c * 128 ^ i : Nat) : Int) := by
    rw [← two_pow_seven]
    simp
  rw [h2, wraps_u64 _ (Int.natCast_nonneg _) (by exact_mod_cast h)]
theorem GetS.next {s : ByteArray} {L : Nat × Nat × Nat} {i : Nat} {X : Int} (h : GetS s L i X) (hi : i < 10) (hs : i < s.size) (hc : 128 ≤ s[i].toNat) :
    GetS s L (i + 1) (Go.bits .or .u64 X (IntKind.u64.wrap (IntKind.u64.wrap (Go.bits .and .u8 (s[i].toNat : Int) 127) * 2 ^ (7 * i)))) := by
  rcases h.here with ⟨_, a, rfl, ha, hL⟩ | ⟨h1, _⟩
  · have hb := s[i].toNat_lt
    rw [byte_at s i hs] at hL
    generalize s[i].toNat = c at hc hb hL
    simp only [goL] at hL
    rw [if_neg (by omega), if_pos hc] at hL
    refine ⟨by omega, ?_⟩
    by_cases h9 : i = 9
    · right
      subst h9
      refine ⟨rfl, ?_⟩
      rw [← hL]
      cases (bytesL s).drop (9 + 1) with
      | nil => simp [goL]
      | cons x r => simp [goL]
    · left
      have h1 : (c - 128) * 128 ^ i ≤ 127 * 128 ^ i := Nat.mul_le_mul_right _ (by omega)
      have h2 : 128 * 128 ^ i ≤ 128 ^ 9 := by rw [← pow128]; exact Nat.pow_le_pow_right (by decide) (by omega)
      have h3 : (128 : Nat) ^ 9 < 2 ^ 64 := by decide
      refine ⟨by omega, a + (c - 128) * 128 ^ i, ?_, by rw [pow128]; omega, hL⟩
      rw [and7 c hb hc, wrap_shift (c - 128) i (by omega), or_join a (c - 128) i (by omega) ha (by omega)]
  · omega
theorem GetS.stop {s : ByteArray} {L : Nat × Nat × Nat} {i : Nat} {X : Int} (h : GetS s L i X) (hi : i < 10) (hs : i < s.size) (hc : s[i].toNat < 128) :
    ∃ a : Nat, X = a ∧ a < 128 ^ i ∧ L = if i = 9 ∧ 1 < s[i].toNat then (0, 0, 3) else if 0 < i ∧ s[i].toNat = 0 then (0, 0, 2) else (a + s[i].toNat * 128 ^ i, i + 1, 0) := by
  rcases h.here with ⟨_, a, rfl, ha, hL⟩ | ⟨h1, _⟩
  · refine ⟨a, rfl, ha, ?_⟩
    rw [byte_at s i hs] at hL
    simp only [goL] at hL
    rw [if_neg (by omega), if_neg (by omega)] at hL
    exact hL.symm
  · omega
theorem last_or (a c i : Nat) (hi : i ≤ 9) (ha : a < 128 ^ i) (hc : c < 128) (h9 : i = 9 → c ≤ 1) : Go.bits .or .u64 (a : Int) (IntKind.u64.wrap ((c : Int) * 2 ^ (7 * i))) = ((a + c * 128 ^ i : Nat) : Int) := by
  have hb : c * 128 ^ i < 2 ^ 64 := by
    by_cases h : i = 9
    · have h1 := h9 h
      subst h
      have : c * 128 ^ 9 ≤ 1 * 128 ^ 9 := Nat.mul_le_mul_right _ h1
      have h2 : (2 : Nat) ^ 64 = 2 * 128 ^ 9 := by decide
      omega
    · have h1 : 128 ^ i ≤ 128 ^ 8 := Nat.pow_le_pow_right (by decide) (by omega)
      have h2 : c * 128 ^ i ≤ 127 * 128 ^ i := Nat.mul_le_mul_right _ (by omega)
      have h3 : (2 : Nat) ^ 64 = 2 * (128 * 128 ^ 8) := by decide
      omega
  rw [wrap_shift c i hb, or_join a c i hi ha hb]
theorem GetS.fin {s : ByteArray} {L : Nat × Nat × Nat} {i : Nat} {X : Int} (h : GetS s L i X) (hi : ¬ i < min s.size 10) : L = if 10 ≤ s.size then (0, 0, 3) else (0, 0, 1) := by
  have hle := h.le
  rcases h.here with ⟨h1, a, rfl, ha, hL⟩ | ⟨h1, hL⟩
  · rw [if_neg (by omega), ← hL, List.drop_eq_nil_of_le (by rw [bytesL_len]; omega)]
    simp only [goL]
    rw [if_pos h1]
  · rw [if_pos (by omega), hL]
theorem res3 {L : Nat × Nat × Nat} {x y z : Nat} (h : L = (x, y, z)) : Ending.returned (.tuple #[.int .u64 (x : Int), .int .i64 (y : Int), .int .i64 (z : Int)]) = .returned (.tuple #[.int .u64 (L.1 : Int), .int .i64 (L.2.1 : Int), .int .i64 (L.2.2 : Int)]) := by rw [h]
set_option maxRecDepth 100000 in
set_option maxHeartbeats 4000000 in
theorem get_long (s : ByteArray) (w : World) (L : Nat × Nat × Nat) (hz : 10 < s.size) (h0 : GetS s L 0 0) : Calls Try.prog 20 #[.string s] w fun e w' =>
    e = .returned (.tuple #[.int .u64 (L.1 : Int), .int .i64 (L.2.1 : Int), .int .i64 (L.2.2 : Int)]) ∧ w' = w := by
  go_enter Try.func20, Try.ntmps20
  go_wp2
  go_loop [5, 11] (fun v5 v11 => ∃ (i : Nat) (X : Int), v5 = .int .u64 X ∧ v11 = .int .i64 i ∧ GetS s L i X) (fun _ v => 10 - (intOf v).toNat)
  case atStart => exact ⟨0, 0, rfl, rfl, h0⟩
  case round =>
    obtain ⟨i, X, rfl, rfl, hst⟩ := hrel
    clear h0
    have hle := hst.le
    by_cases hlt : i < 10
    · have his : i < s.size := by omega
      have hi10 : i < 10 := by omega
      clear hle
      by_cases h128 : 128 ≤ s[i].toNat
      · have hnx := hst.next hi10 his h128
        go_wp2
        go_round
        case rel => exact ⟨i + 1, _, rfl, by go_num, hnx⟩
        case measure => simp [intOf]; omega
      · obtain ⟨a, rfl, ha, hL⟩ := hst.stop hi10 his (by omega)
        have HL := Lib.hid hL
        have HA := Lib.hid ha
        clear hL ha hst
        have hc : s[i].toNat < 128 := by omega
        by_cases h9 : i = 9
        · have b9 : ((i : Int) == 9) = true := by rw [beq_iff_eq]; omega
          have c0 : 0 < i := by omega
          by_cases h1 : 1 < s[i].toNat
          · have hl : L = (0, 0, 3) := by rw [HL.out, if_pos ⟨h9, h1⟩]
            have HLL := Lib.hid hl
            clear hl h9
            go_wp2
            go_ret3
            exact ⟨res3 HLL.out, rfl⟩
          · by_cases hz0 : s[i].toNat = 0
            · have hl : L = (0, 0, 2) := by rw [HL.out, if_neg (by omega), if_pos ⟨c0, hz0⟩]
              have HLL := Lib.hid hl
              have bz : ((s[i].toNat : Int) == 0) = true := by rw [beq_iff_eq]; omega
              clear hl h9 hz0
              go_wp2
              go_ret3
              exact ⟨res3 HLL.out, rfl⟩
            · have hl : L = (a + s[i].toNat * 128 ^ i, i + 1, 0) := by rw [HL.out, if_neg (by omega), if_neg (by omega)]
              have HLL := Lib.hid hl
              have HOR := Lib.hid (last_or a s[i].toNat i (by omega) HA.out hc (by omega))
              have bz : ((s[i].toNat : Int) == 0) = false := by rw [beq_eq_false_iff_ne]; omega
              clear hl h9 hz0
              go_wp2
              go_ret3
              refine ⟨?_, rfl⟩
              rw [← res3 HLL.out, ← HOR.out]
              rfl
        · have b9 : ((i : Int) == 9) = false := by rw [beq_eq_false_iff_ne]; omega
          by_cases c0 : 0 < i
          · by_cases hz0 : s[i].toNat = 0
            · have hl : L = (0, 0, 2) := by rw [HL.out, if_neg (by omega), if_pos ⟨c0, hz0⟩]
              have HLL := Lib.hid hl
              have bz : ((s[i].toNat : Int) == 0) = true := by rw [beq_iff_eq]; omega
              clear hl h9 hz0
              go_wp2
              go_ret3
              exact ⟨res3 HLL.out, rfl⟩
            · have hl : L = (a + s[i].toNat * 128 ^ i, i + 1, 0) := by rw [HL.out, if_neg (by omega), if_neg (by omega)]
              have HLL := Lib.hid hl
              have HOR := Lib.hid (last_or a s[i].toNat i (by omega) HA.out hc (by omega))
              have bz : ((s[i].toNat : Int) == 0) = false := by rw [beq_eq_false_iff_ne]; omega
              clear hl h9 hz0
              go_wp2
              go_ret3
              refine ⟨?_, rfl⟩
              rw [← res3 HLL.out, ← HOR.out]
              rfl
          · have hl : L = (a + s[i].toNat * 128 ^ i, i + 1, 0) := by rw [HL.out, if_neg (by omega), if_neg (by omega)]
            have HLL := Lib.hid hl
            have HOR := Lib.hid (last_or a s[i].toNat i (by omega) HA.out hc (by omega))
            clear hl h9
            go_wp2
            go_ret3
            refine ⟨?_, rfl⟩
            rw [← res3 HLL.out, ← HOR.out]
            rfl
    · have hf := hst.fin (by omega)
      rw [if_pos (by omega)] at hf
      have HF := Lib.hid hf
      clear hf hst hle
      go_wp2
      go_ret3
      exact ⟨res3 HF.out, rfl⟩
set_option maxRecDepth 100000 in
set_option maxHeartbeats 4000000 in
theorem get_ten (s : ByteArray) (w : World) (L : Nat × Nat × Nat) (hz : s.size = 10) (h0 : GetS s L 0 0) : Calls Try.prog 20 #[.string s] w fun e w' =>
    e = .returned (.tuple #[.int .u64 (L.1 : Int), .int .i64 (L.2.1 : Int), .int .i64 (L.2.2 : Int)]) ∧ w' = w := by
  have hz3 : 10 ≤ s.size := by omega
  have hz2 : ¬ 10 < s.size := by omega
  have hz4 : s.size ≤ 10 := by omega
  clear hz
  go_enter Try.func20, Try.ntmps20
  go_wp2
  go_loop [5, 11] (fun v5 v11 => ∃ (i : Nat) (X : Int), v5 = .int .u64 X ∧ v11 = .int .i64 i ∧ GetS s L i X) (fun _ v => 10 - (intOf v).toNat)
  case atStart => exact ⟨0, 0, rfl, rfl, h0⟩
  case round =>
    obtain ⟨i, X, rfl, rfl, hst⟩ := hrel
    clear h0
    have hle := hst.le
    by_cases hlt : i < s.size
    · have his : i < s.size := by omega
      have hi10 : i < 10 := by omega
      clear hle
      by_cases h128 : 128 ≤ s[i].toNat
      · have hnx := hst.next hi10 his h128
        go_wp2
        go_round
        case rel => exact ⟨i + 1, _, rfl, by go_num, hnx⟩
        case measure => simp [intOf]; omega
      · obtain ⟨a, rfl, ha, hL⟩ := hst.stop hi10 his (by omega)
        have HL := Lib.hid hL
        have HA := Lib.hid ha
        clear hL ha hst
        have hc : s[i].toNat < 128 := by omega
        by_cases h9 : i = 9
        · have b9 : ((i : Int) == 9) = true := by rw [beq_iff_eq]; omega
          have c0 : 0 < i := by omega
          by_cases h1 : 1 < s[i].toNat
          · have hl : L = (0, 0, 3) := by rw [HL.out, if_pos ⟨h9, h1⟩]
            have HLL := Lib.hid hl
            clear hl h9
            go_wp2
            go_ret3
            exact ⟨res3 HLL.out, rfl⟩
          · by_cases hz0 : s[i].toNat = 0
            · have hl : L = (0, 0, 2) := by rw [HL.out, if_neg (by omega), if_pos ⟨c0, hz0⟩]
              have HLL := Lib.hid hl
              have bz : ((s[i].toNat : Int) == 0) = true := by rw [beq_iff_eq]; omega
              clear hl h9 hz0
              go_wp2
              go_ret3
              exact ⟨res3 HLL.out, rfl⟩
            · have hl : L = (a + s[i].toNat * 128 ^ i, i + 1, 0) := by rw [HL.out, if_neg (by omega), if_neg (by omega)]
              have HLL := Lib.hid hl
              have HOR := Lib.hid (last_or a s[i].toNat i (by omega) HA.out hc (by omega))
              have bz : ((s[i].toNat : Int) == 0) = false := by rw [beq_eq_false_iff_ne]; omega
              clear hl h9 hz0
              go_wp2
              go_ret3
              refine ⟨?_, rfl⟩
              rw [← res3 HLL.out, ← HOR.out]
              rfl
        · have b9 : ((i : Int) == 9) = false := by rw [beq_eq_false_iff_ne]; omega
          by_cases c0 : 0 < i
          · by_cases hz0 : s[i].toNat = 0
            · have hl : L = (0, 0, 2) := by rw [HL.out, if_neg (by omega), if_pos ⟨c0, hz0⟩]
              have HLL := Lib.hid hl
              have bz : ((s[i].toNat : Int) == 0) = true := by rw [beq_iff_eq]; omega
              clear hl h9 hz0
              go_wp2
              go_ret3
              exact ⟨res3 HLL.out, rfl⟩
            · have hl : L = (a + s[i].toNat * 128 ^ i, i + 1, 0) := by rw [HL.out, if_neg (by omega), if_neg (by omega)]
              have HLL := Lib.hid hl
              have HOR := Lib.hid (last_or a s[i].toNat i (by omega) HA.out hc (by omega))
              have bz : ((s[i].toNat : Int) == 0) = false := by rw [beq_eq_false_iff_ne]; omega
              clear hl h9 hz0
              go_wp2
              go_ret3
              refine ⟨?_, rfl⟩
              rw [← res3 HLL.out, ← HOR.out]
              rfl
          · have hl : L = (a + s[i].toNat * 128 ^ i, i + 1, 0) := by rw [HL.out, if_neg (by omega), if_neg (by omega)]
            have HLL := Lib.hid hl
            have HOR := Lib.hid (last_or a s[i].toNat i (by omega) HA.out hc (by omega))
            clear hl h9
            go_wp2
            go_ret3
            refine ⟨?_, rfl⟩
            rw [← res3 HLL.out, ← HOR.out]
            rfl
    · have hf := hst.fin (by omega)
      rw [if_pos (by omega)] at hf
      have HF := Lib.hid hf
      clear hf hst hle
      go_wp2
      go_ret3
      exact ⟨res3 HF.out, rfl⟩
set_option maxRecDepth 100000 in
set_option maxHeartbeats 4000000 in
theorem get_short (s : ByteArray) (w : World) (L : Nat × Nat × Nat) (hz : s.size < 10) (h0 : GetS s L 0 0) : Calls Try.prog 20 #[.string s] w fun e w' =>
    e = .returned (.tuple #[.int .u64 (L.1 : Int), .int .i64 (L.2.1 : Int), .int .i64 (L.2.2 : Int)]) ∧ w' = w := by
  have hz2 : ¬ 10 < s.size := by omega
  go_enter Try.func20, Try.ntmps20
  go_wp2
  go_loop [5, 11] (fun v5 v11 => ∃ (i : Nat) (X : Int), v5 = .int .u64 X ∧ v11 = .int .i64 i ∧ GetS s L i X) (fun _ v => 10 - (intOf v).toNat)
  case atStart => exact ⟨0, 0, rfl, rfl, h0⟩
  case round =>
    obtain ⟨i, X, rfl, rfl, hst⟩ := hrel
    clear h0
    have hle := hst.le
    by_cases hlt : i < s.size
    · have his : i < s.size := by omega
      have hi10 : i < 10 := by omega
      clear hle
      by_cases h128 : 128 ≤ s[i].toNat
      · have hnx := hst.next hi10 his h128
        go_wp2
        go_round
        case rel => exact ⟨i + 1, _, rfl, by go_num, hnx⟩
        case measure => simp [intOf]; omega
      · obtain ⟨a, rfl, ha, hL⟩ := hst.stop hi10 his (by omega)
        have HL := Lib.hid hL
        have HA := Lib.hid ha
        clear hL ha hst
        have hc : s[i].toNat < 128 := by omega
        by_cases h9 : i = 9
        · have b9 : ((i : Int) == 9) = true := by rw [beq_iff_eq]; omega
          have c0 : 0 < i := by omega
          by_cases h1 : 1 < s[i].toNat
          · have hl : L = (0, 0, 3) := by rw [HL.out, if_pos ⟨h9, h1⟩]
            have HLL := Lib.hid hl
            clear hl h9
            go_wp2
            go_ret3
            exact ⟨res3 HLL.out, rfl⟩
          · by_cases hz0 : s[i].toNat = 0
            · have hl : L = (0, 0, 2) := by rw [HL.out, if_neg (by omega), if_pos ⟨c0, hz0⟩]
              have HLL := Lib.hid hl
              have bz : ((s[i].toNat : Int) == 0) = true := by rw [beq_iff_eq]; omega
              clear hl h9 hz0
              go_wp2
              go_ret3
              exact ⟨res3 HLL.out, rfl⟩
            · have hl : L = (a + s[i].toNat * 128 ^ i, i + 1, 0) := by rw [HL.out, if_neg (by omega), if_neg (by omega)]
              have HLL := Lib.hid hl
              have HOR := Lib.hid (last_or a s[i].toNat i (by omega) HA.out hc (by omega))
              have bz : ((s[i].toNat : Int) == 0) = false := by rw [beq_eq_false_iff_ne]; omega
              clear hl h9 hz0
              go_wp2
              go_ret3
              refine ⟨?_, rfl⟩
              rw [← res3 HLL.out, ← HOR.out]
              rfl
        · have b9 : ((i : Int) == 9) = false := by rw [beq_eq_false_iff_ne]; omega
          by_cases c0 : 0 < i
          · by_cases hz0 : s[i].toNat = 0
            · have hl : L = (0, 0, 2) := by rw [HL.out, if_neg (by omega), if_pos ⟨c0, hz0⟩]
              have HLL := Lib.hid hl
              have bz : ((s[i].toNat : Int) == 0) = true := by rw [beq_iff_eq]; omega
              clear hl h9 hz0
              go_wp2
              go_ret3
              exact ⟨res3 HLL.out, rfl⟩
            · have hl : L = (a + s[i].toNat * 128 ^ i, i + 1, 0) := by rw [HL.out, if_neg (by omega), if_neg (by omega)]
              have HLL := Lib.hid hl
              have HOR := Lib.hid (last_or a s[i].toNat i (by omega) HA.out hc (by omega))
              have bz : ((s[i].toNat : Int) == 0) = false := by rw [beq_eq_false_iff_ne]; omega
              clear hl h9 hz0
              go_wp2
              go_ret3
              refine ⟨?_, rfl⟩
              rw [← res3 HLL.out, ← HOR.out]
              rfl
          · have hl : L = (a + s[i].toNat * 128 ^ i, i + 1, 0) := by rw [HL.out, if_neg (by omega), if_neg (by omega)]
            have HLL := Lib.hid hl
            have HOR := Lib.hid (last_or a s[i].toNat i (by omega) HA.out hc (by omega))
            clear hl h9
            go_wp2
            go_ret3
            refine ⟨?_, rfl⟩
            rw [← res3 HLL.out, ← HOR.out]
            rfl
    · have hf := hst.fin (by omega)
      rw [if_neg (by omega)] at hf
      have HF := Lib.hid hf
      clear hf hst hle
      go_wp2
      go_ret3
      exact ⟨res3 HF.out, rfl⟩
theorem get_hand (s : ByteArray) (w : World) : Calls Try.prog 20 #[.string s] w fun e w' =>
    e = .returned (.tuple #[.int .u64 ((getL (bytesL s)).1 : Int), .int .i64 ((getL (bytesL s)).2.1 : Int), .int .i64 ((getL (bytesL s)).2.2 : Int)]) ∧ w' = w := by
  have h0 : GetS s (getL (bytesL s)) 0 0 := ⟨Nat.zero_le _, .inl ⟨by decide, 0, rfl, by decide, rfl⟩⟩
  by_cases h1 : 10 < s.size
  · exact get_long s w _ h1 h0
  · by_cases h2 : s.size = 10
    · exact get_ten s w _ h2 h0
    · exact get_short s w _ (by omega) h0
theorem getC_hand : GetC := fun s w => (get_hand s w).mono fun _ _ ⟨he, hw⟩ => ⟨he, by rw [hw]; exact Below.refl _ _⟩
end Go.Proofs.Ytmgjeoemnmcjoaa
