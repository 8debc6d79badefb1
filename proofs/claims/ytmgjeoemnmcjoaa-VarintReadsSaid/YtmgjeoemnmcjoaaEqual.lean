/-
  slices.Equal, of two slices of numbers that hold the same: true.
-/
import Derived.Test.YtmgjeoemnmcjoaaQuiet
import Derived.Lib.Hide
import Derived.Deep.Draws
namespace Go.Proofs.Ytmgjeoemnmcjoaa
open Go.RowKit

/-- The slice's cells are the numbers xs. -/
def ReadsU (w : World) (A : Option Addr) (xs : List Nat) : Prop := ∀ (i x : Nat), xs[i]? = some x → ∃ g, A = some ⟨g, 0, none⟩ ∧ w.cell? ⟨g, i, none⟩ = some (.int .u64 x)
theorem add_zero_flat (b j : Nat) : (⟨b, 0, none⟩ : Addr).add j = ⟨b, j, none⟩ := by unfold Addr.add; split <;> simp_all
set_option maxHeartbeats 1000000 in
theorem equal_any (A0 A1 : Option Addr) (c0 c1 : Nat) (xs : List Nat) (w : World) (h0 : ReadsU w A0 xs) (h1 : ReadsU w A1 xs) (hl : xs.length ≤ 9223372036854775807) :
    Calls Try.prog 36 #[.slice A0 xs.length c0, .slice A1 xs.length c1] w fun e w' => e = .returned (.bool true) ∧ ∃ m, w' = w.drewN m := by
  obtain ⟨n, hn⟩ : ∃ n, n = xs.length := ⟨_, rfl⟩
  rw [← hn] at hl ⊢
  have HN := Lib.hid hn
  clear hn
  go_enter Try.func36, Try.ntmps36
  go_wp2
  go_loopw [13] (fun v13 wr => ∃ k : Nat, k ≤ n ∧ v13 = .int .i64 k ∧ ∃ m, wr = w.drewN m) (fun i _ => n - (intOf i).toNat)
  case atStart => exact ⟨0, Nat.zero_le _, rfl, 0, rfl⟩
  case round =>
    obtain ⟨k, hk, rfl, m, rfl⟩ := hrel
    by_cases hlt : k < n
    · have hlx : k < xs.length := by have := HN.out; omega
      obtain ⟨g0, rfl, e0⟩ := h0 k xs[k] (List.getElem?_eq_getElem hlx)
      obtain ⟨g1, rfl, e1⟩ := h1 k xs[k] (List.getElem?_eq_getElem hlx)
      have a0 := add_zero_flat g0 k
      have a1 := add_zero_flat g1 k
      generalize xs[k] = x at e0 e1
      clear h0 h1
      go_wp2
      go_quiet (fail)
      go_wp2
      go_roundw
      case rel => exact ⟨k + 1, by omega, by go_num, _, rfl⟩
      case measure => simp [intOf]; omega
    · go_wp2
      go_ret
      exact ⟨rfl, _, rfl⟩
/-- The numbers as cells. -/
def u64s (xs : List Nat) : List Value := xs.map fun x : Nat => Value.int .u64 (x : Int)
theorem reads_of {w : World} {b : Nat} {v : Value} {xs : List Nat} (h : w.ownsRow b 28 1 v xs.length (u64s xs)) : ∃ A c, v = .slice A xs.length c ∧ ReadsU w A xs := by
  rcases h.2 with ⟨rfl, hn⟩ | ⟨g, cap, cur, rfl, _⟩
  · have : xs = [] := List.eq_nil_of_length_eq_zero hn
    subst this
    exact ⟨none, 0, rfl, fun i x hx => by simp at hx⟩
  · refine ⟨some ⟨g, 0, none⟩, cap, rfl, fun i x hx => ⟨g, rfl, ?_⟩⟩
    have h1 := h.cells (g := g) rfl i (.int .u64 (x : Int)) (by simp [u64s, hx])
    rwa [add_zero_flat] at h1
theorem equal_own {w : World} {b0 b1 : Nat} {v0 v1 : Value} {xs : List Nat} (h0 : w.ownsRow b0 28 1 v0 xs.length (u64s xs)) (h1 : w.ownsRow b1 28 1 v1 xs.length (u64s xs)) (hl : xs.length ≤ 9223372036854775807) :
    Calls Try.prog 36 #[v0, v1] w fun e w' => e = .returned (.bool true) ∧ ∃ m, w' = w.drewN m := by
  obtain ⟨A0, c0, rfl, r0⟩ := reads_of h0
  obtain ⟨A1, c1, rfl, r1⟩ := reads_of h1
  exact equal_any A0 A1 c0 c1 xs w r0 r1 hl
end Go.Proofs.Ytmgjeoemnmcjoaa
