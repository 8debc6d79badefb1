/-
  VarintBack, the walk: for every number, text and cut the call answers true, where Put and Get answer as the plain lists say.
-/
import Derived.Test.YtmgjeoemnmcjoaaAwb
import Derived.Test.YtmgjeoemnmcjoaaQuiet
namespace Go.Proofs.Ytmgjeoemnmcjoaa
open Go.RowKit

set_option maxRecDepth 100000 in
set_option maxHeartbeats 4000000 in
theorem back_far (hP : PutC) (hG : GetC) (n c : Int) (s : ByteArray) (w : World) (h : 2000 < s.size) (hs : s.size ≤ 140737488351232) :
    Calls Try.prog 5 #[.int .u64 n, .string s, .int .u8 c] w fun e w' => e = .returned (.bool true) ∧ Below w.heap.size w w' := by
  go_enter Try.func5, Try.ntmps5
  go_wp2_with (go_at_call 18; refine (awake2 hP hG _).mono ?_; rintro e w1 ⟨rfl, h1⟩)
  go_ret
  exact ⟨rfl, h1⟩
/-- What is known of the number's writing W, of the text s and of the cut j. -/
structure BackFacts (N : Nat) (W s : ByteArray) (c : Nat) : Prop where
  pos : 0 < W.size
  ten : W.size ≤ 10
  put : ∀ w, Calls Try.prog 19 #[.int .u64 N] w fun e w' => e = .returned (.string W) ∧ Below w.heap.size w w'
  get : ∀ w, Calls Try.prog 20 #[.string (W ++ s)] w fun e w' => e = .returned (.tuple #[.int .u64 N, .int .i64 W.size, .int .i64 0]) ∧ Below w.heap.size w w'
  cut : ∀ w, Calls Try.prog 20 #[.string (W.extract 0 (c % W.size))] w fun e w' => e = .returned (.tuple #[.int .u64 0, .int .i64 0, .int .i64 1]) ∧ Below w.heap.size w w'
theorem back_facts (hP : PutC) (hG : GetC) (N : Nat) (hN : N < 2 ^ 64) (s : ByteArray) (c : Nat) : BackFacts N (strL (putL N)) s c := by
  have hsz : (strL (putL N)).size = (putL N).length := strL_size _
  have hb := putL_byte N
  refine ⟨by rw [hsz]; exact putL_pos N, by rw [hsz]; exact putL_ten hN, fun w => hP N hN w, fun w => ?_, fun w => ?_⟩
  · have h := hG (strL (putL N) ++ s) w
    rw [bytesL_append, bytesL_strL _ hb, get_put N _ hN] at h
    rw [hsz]
    exact h
  · have h := hG ((strL (putL N)).extract 0 (c % (strL (putL N)).size)) w
    rw [bytesL_extract, bytesL_strL _ hb, List.drop_zero, get_cut N _ hN (by rw [hsz]; exact Nat.mod_lt _ (putL_pos N))] at h
    exact h
theorem cut_in (c : Nat) {W : ByteArray} (h : 0 < W.size) : 0 ≤ (c : Int) % (W.size : Int) ∧ (c : Int) % (W.size : Int) ≤ (W.size : Int) :=
  ⟨Int.emod_nonneg _ (by omega), Int.le_of_lt (Int.emod_lt_of_pos _ (by omega))⟩
set_option maxRecDepth 100000 in
set_option maxHeartbeats 4000000 in
theorem back_err (hP : PutC) (hG : GetC) (N c : Nat) (s W : ByteArray) (w : World) (hs : s.size ≤ 2000) (hc : c < 256) (hf : BackFacts N W s c) (e : Nat) (he : e ≠ 0)
    (hg : ∀ w, Calls Try.prog 20 #[.string s] w fun x w' => x = .returned (.tuple #[.int .u64 0, .int .i64 0, .int .i64 e]) ∧ Below w.heap.size w w') :
    Calls Try.prog 5 #[.int .u64 N, .string s, .int .u8 c] w fun e w' => e = .returned (.bool true) ∧ Below w.heap.size w w' := by
  have hpos := hf.pos
  have hten := hf.ten
  have hin := cut_in c hpos
  have he1 : ((e : Int) != 0) = true := by rw [bne_iff_ne]; omega
  have he2 : ((e : Int) == 0) = false := by rw [beq_eq_false_iff_ne]; omega
  clear he
  go_enter Try.func5, Try.ntmps5
  go_wp2_with (first
    | (go_at_call 18; refine (awake2 hP hG _).mono ?_; rintro e w1 ⟨rfl, h1⟩)
    | (go_at_call 19; refine (hf.put _).mono ?_; rintro e w2 ⟨rfl, h2⟩)
    | (go_at_call 20; ((with_reducible refine (hf.get _).mono ?_); rintro e w3 ⟨rfl, h3⟩))
    | (go_at_call 20; ((with_reducible refine (hf.cut _).mono ?_); rintro e w4 ⟨rfl, h4⟩))
    | (go_at_call 20; ((with_reducible refine (hg _).mono ?_); rintro e w5 ⟨rfl, h5⟩)))
  go_quiet (fail)
  go_wp2
  go_ret
  exact ⟨rfl, below_dn (below_then2 (below_then2 (below_then2 (below_then2 h1 h2) h3) h4) h5) _⟩
set_option maxRecDepth 100000 in
set_option maxHeartbeats 4000000 in
theorem back_ok (hP : PutC) (hG : GetC) (N c : Nat) (s W : ByteArray) (w : World) (hs : s.size ≤ 2000) (hc : c < 256) (hf : BackFacts N W s c) (b m : Nat) (z : Int) (hz1 : (z != 0) = false) (hz2 : (z == 0) = true) (hm : m ≤ s.size)
    (hg : ∀ w, Calls Try.prog 20 #[.string s] w fun x w' => x = .returned (.tuple #[.int .u64 b, .int .i64 m, .int .i64 z]) ∧ Below w.heap.size w w')
    (hp : ∀ w, Calls Try.prog 19 #[.int .u64 b] w fun x w' => x = .returned (.string (s.extract 0 m)) ∧ Below w.heap.size w w') :
    Calls Try.prog 5 #[.int .u64 N, .string s, .int .u8 c] w fun e w' => e = .returned (.bool true) ∧ Below w.heap.size w w' := by
  have hpos := hf.pos
  have hten := hf.ten
  have hin := cut_in c hpos
  go_enter Try.func5, Try.ntmps5
  go_wp2_with (first
    | (go_at_call 18; refine (awake2 hP hG _).mono ?_; rintro e w1 ⟨rfl, h1⟩)
    | (go_at_call 19; ((with_reducible refine (hf.put _).mono ?_); rintro e w2 ⟨rfl, h2⟩))
    | (go_at_call 20; ((with_reducible refine (hf.get _).mono ?_); rintro e w3 ⟨rfl, h3⟩))
    | (go_at_call 20; ((with_reducible refine (hf.cut _).mono ?_); rintro e w4 ⟨rfl, h4⟩))
    | (go_at_call 20; ((with_reducible refine (hg _).mono ?_); rintro e w5 ⟨rfl, h5⟩)))
  have hB := below_then2 (below_then2 (below_then2 (below_then2 h1 h2) h3) h4) h5
  clear h1 h2 h3 h4 h5
  have hne := belowW_some w
  refine wp_region_below hB (by kernel_rfl) (by kernel_rfl) ?_
  repeat (first | go_big_quiet_step ((go_at_call 19; exact calls_below (hp _))) | quiet_step ((go_at_call 19; exact calls_below (hp _))))
  refine wpQuiet_nil ?_
  rintro _ ⟨pq, rfl⟩
  go_wp2
  go_ret
  exact ⟨rfl, pq.h⟩
end Go.Proofs.Ytmgjeoemnmcjoaa
