/-
  VarintTakes answers true for every list of numbers and every text.
-/
import Derived.Test.YtmgjeoemnmcjoaaVtakes
import Derived.Test.YtmgjeoemnmcjoaaHGet
import Derived.Test.YtmgjeoemnmcjoaaHPut
import GoSem.Claim
namespace Go.Proofs.Ytmgjeoemnmcjoaa
open Go.RowKit

/-- A slice of numbers that came in, read. -/
def U64Row (w : World) (a : Option Addr) (len cap : Nat) (zs : List Int) : Prop :=
  (a = none ∧ len = 0 ∧ cap = 0 ∧ zs = []) ∨
  ∃ x, a = some x ∧ len ≤ cap ∧ cap ≤ maxLen ∧ zs.length = cap ∧ (∀ i, i < zs.length → w.cell? (x.add i) = some (.int .u64 (zs.getD i 0))) ∧ ∀ n ∈ zs, (Lit.int .u64 n).wf = true
theorem u64row_nums {w : World} {a : Option Addr} {len cap : Nat} {zs : List Int} (h : U64Row w a len cap zs) : len ≤ 9223372036854775807 ∧ ∃ ns : List Nat, len = ns.length ∧ Nums w a ns := by
  rcases h with ⟨rfl, rfl, rfl, rfl⟩ | ⟨x, rfl, hl, hm, hz, hc, hw⟩
  · exact ⟨by omega, [], rfl, fun i n h => by simp at h⟩
  · have hm' : cap ≤ 9223372036854775807 := hm
    refine ⟨by omega, (zs.take len).map Int.toNat, by simp; omega, fun i n hi => ?_⟩
    simp only [List.getElem?_map, Option.map_eq_some_iff] at hi
    obtain ⟨z, hz1, rfl⟩ := hi
    have hil : i < len := by
      have := (List.getElem?_eq_some_iff.1 hz1).1
      simp at this
      omega
    have hz2 : zs[i]? = some z := by
      rw [List.getElem?_take] at hz1
      rw [if_pos hil] at hz1
      exact hz1
    have hmem := List.mem_of_getElem? hz2
    have hwf := hw z hmem
    simp [Lit.wf, IntKind.min, IntKind.max, IntKind.bits, IntKind.signed] at hwf
    obtain ⟨N, rfl⟩ := Int.eq_ofNat_of_zero_le hwf.1
    have h0 := hc 0 (by omega)
    have h1 := hc i (by omega)
    obtain ⟨b, o, sp⟩ := x
    obtain rfl : sp = none := by
      cases sp with
      | none => rfl
      | some q =>
        have h00 : w.cell? ⟨b, o, some q⟩ = some (.int .u64 (zs.getD 0 0)) := h0
        simp [World.cell?] at h00
        split at h00 <;> simp at h00
    rw [add_flat2, List.getD_eq_getElem?_getD, hz2] at h1
    exact ⟨by simp only [Int.toNat_natCast]; omega, b, o, rfl, h1⟩
theorem vtakes_any (A : Option Addr) (len cap : Nat) (s : ByteArray) (w : World) (zs : List Int) (h : U64Row w A len cap zs) (hs : s.size ≤ 140737488351232) :
    Calls Try.prog 6 #[.slice A len cap, .string s] w fun e w' => e = .returned (.bool true) ∧ Below w.heap.size w w' := by
  have hP : PutC := putC_hand
  have hG : GetC := getC_hand
  obtain ⟨hl, ns, rfl, hn⟩ := u64row_nums h
  by_cases hf : 2000 < s.size ∨ 60 < ns.length
  · exact vtakes_far hP hG s A ns.length cap w hs hl hf
  · exact vtakes_near hP hG s A ns cap w (by omega) (by omega) hn
end Go.Proofs.Ytmgjeoemnmcjoaa
