/-
  The document's Take: what it answers, whatever the world.
-/
import Derived.Test.YtmgjeoemnmcjoaaCur
import Derived.StillTailTactics
import Derived.RegionTactic
import Derived.Deep.RegionHeld3
namespace Go.Proofs.Ytmgjeoemnmcjoaa
open Go.RowKit

theorem rtake_no (r : ByteArray) (a n : Int) (w : World) (hs : r.size ≤ 9223372036854775807) (hn : (r.size : Int) < n) :
    Calls Try.prog 11 #[.agg #[.string r, .int .i64 a], .int .u64 n] w fun e w' => e = .returned (.tuple #[.agg #[.string r, .int .i64 a], .string ⟨#[]⟩, .bool false]) ∧ Below w.heap.size w w' := by
  have hw : IntKind.u64.wrap (r.size : Int) = r.size := by unfold IntKind.wrap; simp [IntKind.bits, IntKind.signed]; omega
  go_enter Try.func11, Try.ntmps11
  go_wp2
  exact bodyPost_ret (v := .tuple #[.agg #[.string r, .int .i64 a], .string ⟨#[]⟩, .bool false]) (by simp [results, Try.results11, go_sem]) rfl ⟨rfl, (((Below.refl _ _).alloc (Nat.le_refl _) _).alloc (by simp) _)⟩
theorem blk2_set {W : World} {g : Nat} {t : TypeId} {x y : Value} (h : W.heap[g]? = some (.cells #[x, y] t (0, 0))) (u v : Value) : ((W.setCell ⟨g, 0, none⟩ u).setCell ⟨g, 1, none⟩ v).heap[g]? = some (.cells #[u, v] t (0, 0)) := by
  simp [World.setCell, Array.getElem?_modify, h]
theorem rtake_yes (r : ByteArray) (a n : Nat) (w : World) (hs : r.size ≤ 9223372036854775807) (hn : n ≤ r.size) (ha : a + n ≤ 9223372036854775807) :
    Calls Try.prog 11 #[.agg #[.string r, .int .i64 a], .int .u64 n] w fun e w' => e = .returned (.tuple #[.agg #[.string (r.extract n r.size), .int .i64 ((a + n : Nat) : Int)], .string (r.extract 0 n), .bool true]) ∧ Below w.heap.size w w' := by
  have hw : IntKind.u64.wrap (r.size : Int) = r.size := by unfold IntKind.wrap; simp [IntKind.bits, IntKind.signed]; omega
  have hw2 : IntKind.i64.wrap (n : Int) = n := IntWalk.i64_in _ (by omega)
  have HW := Lib.hid hw
  have HW2 := Lib.hid hw2
  go_enter Try.func11, Try.ntmps11
  go_wp2
  have hB : Below w.heap.size w ((w.alloc (Obj.cells #[Value.string r, Value.int IntKind.i64 ↑a] 27)).alloc (Obj.cells #[Value.string { data := #[] }, Value.int IntKind.i64 0] 27)) := (((Below.refl _ _).alloc (Nat.le_refl _) _).alloc (by simp) _)
  have e0 : ((w.alloc (Obj.cells #[Value.string r, Value.int IntKind.i64 ↑a] 27)).alloc (Obj.cells #[Value.string { data := #[] }, Value.int IntKind.i64 0] 27)).cell? ⟨w.heap.size, 0, none⟩ = some (.string r) := by go_simp
  have e1 : ((w.alloc (Obj.cells #[Value.string r, Value.int IntKind.i64 ↑a] 27)).alloc (Obj.cells #[Value.string { data := #[] }, Value.int IntKind.i64 0] 27)).cell? ⟨w.heap.size, 1, none⟩ = some (.int .i64 a) := by go_simp
  have e2 : ((w.alloc (Obj.cells #[Value.string r, Value.int IntKind.i64 ↑a] 27)).alloc (Obj.cells #[Value.string { data := #[] }, Value.int IntKind.i64 0] 27)).heap[w.heap.size + 1]? = some (.cells #[Value.string ⟨#[]⟩, .int .i64 0] 27 (0, 0)) := by
    show ((w.heap.push _).push _)[w.heap.size + 1]? = _
    rw [Array.getElem?_push, if_pos (by simp)]
  generalize hWW : ((w.alloc (Obj.cells #[Value.string r, Value.int IntKind.i64 ↑a] 27)).alloc (Obj.cells #[Value.string { data := #[] }, Value.int IntKind.i64 0] 27)) = W at hB e0 e1 e2 ⊢
  clear hWW
  have f0 := cell_of_row W _ 0 _ _ _ e2
  have f1 := cell_of_row W _ 1 _ _ _ e2
  have z0 := frozen_of_row W _ 0 _ _ e2
  have z1 := frozen_of_row W _ 1 _ _ e2
  have hw2 := HW2.out
  have hw3 : IntKind.i64.wrap ((a : Int) + n) = (a : Int) + n := IntWalk.i64_in _ (by omega)
  have ne : w.heap.size ≠ w.heap.size + 1 := by omega
  go_region_held3 (fun w' => w'.cell? ⟨w.heap.size, 0, none⟩ = some (.string r) ∧ w'.cell? ⟨w.heap.size, 1, none⟩ = some (.int .i64 a)) (go_keep) (fail)
  clear hw2 hw3
  have e3 := blk2_set e2 (Value.string (r.extract n r.size)) (Value.int IntKind.i64 (↑a + ↑n))
  have c0 := cell_of_row _ _ 0 _ _ _ e3
  have c1 := cell_of_row _ _ 1 _ _ _ e3
  go_wp2
  exact bodyPost_ret (v := .tuple #[.agg #[.string (r.extract n r.size), .int .i64 ((a + n : Nat) : Int)], .string (r.extract 0 n), .bool true]) (by simp [results, Try.results11, go_sem, c0, c1]) rfl ⟨rfl, by (repeat first | exact hB | apply Below.drew | refine Below.setCell ?_ (by simp) _)⟩
end Go.Proofs.Ytmgjeoemnmcjoaa
