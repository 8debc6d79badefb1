/-
  A region that draws its order, whose operations only reckon and whose callees leave old memory alone: one walk, in the order of the text.
-/
import Derived.Test.YtmgjeoemnmcjoaaProg
import Derived.WalkKit
import Derived.Deep.QuietTactic
import Derived.BigQuiet
namespace Go.Proofs.Ytmgjeoemnmcjoaa
open Go.RowKit

/-- A world in which all that was there in w0 stands as it stood. -/
structure BelowW (w0 : World) where
  w : World
  h : Below w0.heap.size w0 w
theorem belowW_some (w0 : World) : Nonempty (BelowW w0) := ⟨⟨w0, Below.refl _ _⟩⟩
theorem wp_region_below {P : Program} {id : Nat} {Q : Exit → Act → World → Prop} {a : Act} {w w0 : World} {l : List Oper} (hb : Below w0.heap.size w0 w) (hm : P.follows .mixedOrders = true) (hB : Region.lexB .any l.toArray = true)
    (h : wpQuiet P l.toArray (fun w' => ∃ p : BelowW w0, w' = p.w) (fun a' => ∀ w', (∃ p : BelowW w0, w' = p.w) → Q .normal a' w') l a) : (Code.region id l.toArray true).wp P Q a w :=
  wp_region_quiet (C := fun w' => ∃ p : BelowW w0, w' = p.w) hm hB ⟨⟨_, hb.drew⟩, rfl⟩ (by simpa using h)
theorem calls_below {P : Program} {f : FuncId} {args : Array Value} {w0 : World} {p : BelowW w0} {v : Value}
    (h : Calls P f args p.w fun e w' => e = .returned v ∧ Below p.w.heap.size p.w w') : Calls P f args p.w fun e w'' => e = .returned v ∧ ∃ q : BelowW w0, w'' = q.w :=
  h.mono fun _ w' ⟨he, hb⟩ => ⟨he, ⟨w', p.h.trans (hb.mono p.h.size)⟩, rfl⟩
end Go.Proofs.Ytmgjeoemnmcjoaa
