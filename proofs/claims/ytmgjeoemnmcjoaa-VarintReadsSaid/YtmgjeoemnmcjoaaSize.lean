/-
  varint.Size: how many bytes a number is written in. For every number of 64 bits.
-/
import Derived.Test.YtmgjeoemnmcjoaaProg
import Derived.WalkKit
import Derived.WalkSpells
import Derived.WalkLawsBesides
import Derived.Lib.Strings
import Derived.Lib.Slices
import Derived.Lib.Small
import Derived.Lib.Walk
import Derived.Lib.BitFns
import Derived.Lib.Hide
import Derived.Test.YtmgjeoemnmcjoaaSpec
namespace Go.Proofs.Ytmgjeoemnmcjoaa
open Go.RowKit

theorem tab_size : Lib.len8tab.size = 256 := by kernel_rfl
theorem tab_all : ∀ i : Fin 256, (Lib.len8tab[i.val]'(by rw [tab_size]; exact i.isLt)).toNat = Lib.bitLen i.val ∧ Lib.bitLen i.val ≤ 8 := by decide +kernel
theorem len_step (x : Int) (k : Nat) (y : Int) (h : y.toNat < Lib.len8tab.size) (d : Nat) (h1 : k ≤ 56) (hy : y.toNat = x.toNat / d) (h2 : Lib.bitLen x.toNat = k + Lib.bitLen (x.toNat / d)) :
    wrap64 ((k : Int) + wrap64 (((Lib.len8tab[y.toNat]'h).toNat : Nat) : Int)) = (Lib.bitLen x.toNat : Int) := by
  have h3 := tab_all ⟨y.toNat, by rw [← tab_size]; exact h⟩
  simp only at h3
  rw [← hy] at h2
  rw [h3.1, h2]
  unfold wrap64
  omega
theorem len_last (x : Int) (h : x.toNat < Lib.len8tab.size) : wrap64 (wrap64 (((Lib.len8tab[x.toNat]'h).toNat : Nat) : Int)) = (Lib.bitLen x.toNat : Int) := by
  have h3 := tab_all ⟨x.toNat, by rw [← tab_size]; exact h⟩
  simp only at h3
  rw [h3.1]
  unfold wrap64
  omega
set_option maxHeartbeats 4000000 in
set_option maxRecDepth 100000 in
theorem len64_any (x : Int) (w : World) (_h0 : 0 ≤ x) (h1 : x ≤ 18446744073709551615) :
    Calls Try.prog 39 #[.int .u64 x] w fun e w' => e = .returned (.int .i64 (Lib.bitLen x.toNat)) ∧ w' = w := by
  have hsz := tab_size
  go_enter Try.func39, Try.ntmps39
  go_wp2
  all_goals (go_ret; refine ⟨congrArg Ending.returned (congrArg (Value.int IntKind.i64) ?_), rfl⟩)
  all_goals first
    | exact len_step x 56 (x / 4294967296 / 65536 / 256) _ 72057594037927936 (by omega) (by omega) (Lib.bitLen_shift56 x.toNat (by omega) (by omega))
    | exact len_step x 48 (x / 4294967296 / 65536) _ 281474976710656 (by omega) (by omega) (Lib.bitLen_shift48 x.toNat (by omega) (by omega))
    | exact len_step x 40 (x / 4294967296 / 256) _ 1099511627776 (by omega) (by omega) (Lib.bitLen_shift40 x.toNat (by omega) (by omega))
    | exact len_step x 32 (x / 4294967296) _ 4294967296 (by omega) (by omega) (Lib.bitLen_shift32 x.toNat (by omega) (by omega))
    | exact len_step x 24 (x / 65536 / 256) _ 16777216 (by omega) (by omega) (Lib.bitLen_shift24 x.toNat (by omega) (by omega))
    | exact len_step x 16 (x / 65536) _ 65536 (by omega) (by omega) (Lib.bitLen_shift16 x.toNat (by omega) (by omega))
    | exact len_step x 8 (x / 256) _ 256 (by omega) (by omega) (Lib.bitLen_shift8 x.toNat (by omega) (by omega))
    | exact len_last x _
theorem small_len : ∀ n : Fin 128, Lib.bitLen n.val ≤ 7 := by decide +kernel
theorem putL_bits (n : Nat) : n < 2 ^ 64 → (putL n).length = max 1 ((Lib.bitLen n + 6) / 7) := by
  induction n using Nat.strongRecOn with
  | ind n ih =>
    intro h
    by_cases h1 : n < 128
    · have h2 := small_len ⟨n, h1⟩
      simp only at h2
      rw [putL_small h1, List.length_singleton]
      omega
    · have h2 : Lib.bitLen n = 7 + Lib.bitLen (n / 128) := Lib.bitLen_shift 7 n (by omega) h
      have h3 := ih (n / 128) (by omega) (by omega)
      have h4 := Lib.bitLen_half (n / 128) (by omega) (by omega)
      rw [putL_big h1, List.length_cons, h3, h2]
      omega
theorem bits_le (n : Nat) (h : n < 2 ^ 64) : Lib.bitLen n ≤ 64 := Lib.bitLen_le n 64 (by decide) h
theorem size_any (n : Nat) (w : World) (h : n < 2 ^ 64) : Calls Try.prog 35 #[.int .u64 n] w fun e w' => e = .returned (.int .i64 ((putL n).length : Int)) ∧ w' = w := by
  have hl : ∀ w, Calls Try.prog 39 #[.int .u64 n] w fun e w' => e = .returned (.int .i64 (Lib.bitLen n)) ∧ w' = w := fun w => len64_any n w (by omega) (by omega)
  have hp := putL_bits n h
  have hb := bits_le n h
  have HP := Lib.hid hp
  clear hp h
  generalize Lib.bitLen n = L at hb HP hl
  go_enter Try.func35, Try.ntmps35
  go_wp2_with (go_at_call 39; refine (hl _).mono ?_; rintro e w1 ⟨rfl, rfl⟩)
  go_ret
  refine ⟨congrArg Ending.returned (congrArg (Value.int IntKind.i64) ?_), rfl⟩
  show max 1 (((L : Int) + 7 - 1) / 7) = _
  rw [HP.out]
  omega
end Go.Proofs.Ytmgjeoemnmcjoaa
