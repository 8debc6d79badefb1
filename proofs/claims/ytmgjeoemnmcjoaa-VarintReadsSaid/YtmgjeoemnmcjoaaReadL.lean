/-
  All numbers of a text, in plain lists.
-/
import Derived.Test.YtmgjeoemnmcjoaaSpec
namespace Go.Proofs.Ytmgjeoemnmcjoaa

/-- All numbers of a text, acc having been read: they, and 0; or none, and the first error. (f: more than the text is long.) -/
def readL : Nat → List Nat → List Nat → List Nat × Nat
  | 0, acc, _ => (acc, 0)
  | f + 1, acc, l => if l = [] then (acc, 0) else if (getL l).2.2 = 0 then readL f (acc ++ [(getL l).1]) (l.drop (getL l).2.1) else ([], (getL l).2.2)
theorem readL_nil (f : Nat) (acc : List Nat) : readL (f + 1) acc [] = (acc, 0) := by simp [readL]
theorem readL_err (f : Nat) (acc l : List Nat) (hl : l ≠ []) (h : (getL l).2.2 ≠ 0) : readL (f + 1) acc l = ([], (getL l).2.2) := by
  simp only [readL]
  rw [if_neg hl, if_neg h]
theorem readL_ok (f : Nat) (acc l : List Nat) (hl : l ≠ []) (h : (getL l).2.2 = 0) : readL (f + 1) acc l = readL f (acc ++ [(getL l).1]) (l.drop (getL l).2.1) := by
  simp only [readL]
  rw [if_neg hl, if_pos h]
/-- No more numbers than bytes. -/
theorem readL_len (f : Nat) : ∀ (acc l : List Nat), (∀ c ∈ l, c < 256) → (readL f acc l).1.length ≤ acc.length + l.length := by
  induction f with
  | zero => intro acc l _; simp only [readL]; omega
  | succ f ih =>
    intro acc l hb
    simp only [readL]
    split
    · simp only; omega
    split
    · rename_i h1 h2
      have h3 := ih (acc ++ [(getL l).1]) (l.drop (getL l).2.1) (fun c hc => hb c (List.mem_of_mem_drop hc))
      have h4 := get_pos l hb h2
      have h5 := get_le l hb
      simp only [List.length_append, List.length_singleton, List.length_drop] at h3
      omega
    · simp
end Go.Proofs.Ytmgjeoemnmcjoaa
