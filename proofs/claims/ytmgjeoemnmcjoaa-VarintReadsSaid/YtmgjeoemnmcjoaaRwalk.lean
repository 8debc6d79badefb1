/-
  VarintReads answers true for every number and every text.
-/
import Derived.Test.YtmgjeoemnmcjoaaHRAll
import Derived.Test.YtmgjeoemnmcjoaaHPut
import Derived.Test.YtmgjeoemnmcjoaaHRPut
import Derived.Test.YtmgjeoemnmcjoaaSize
import GoSem.Claim
namespace Go.Proofs.Ytmgjeoemnmcjoaa
open Go.RowKit

set_option maxRecDepth 100000 in
set_option maxHeartbeats 4000000 in
theorem reads_far (hP : PutC) (hG : GetC) (n : Int) (s : ByteArray) (w : World) (hs : s.size ≤ 140737488351232) (h : 2000 < s.size) :
    Calls Try.prog 8 #[.int .u64 n, .string s] w fun e w' => e = .returned (.bool true) ∧ Below w.heap.size w w' := by
  go_enter Try.func8, Try.ntmps8
  go_wp2_with (go_at_call 18; refine (awake2 hP hG _).mono ?_; rintro e w1 ⟨rfl, h1⟩)
  go_ret
  exact ⟨rfl, h1⟩
/-- What is known of the number and the text. -/
structure ReadFacts (N : Nat) (s P : ByteArray) (b m e : Nat) (R : List Nat × Nat) : Prop where
  get : ∀ w, Calls Try.prog 20 #[.string s] w fun x w' => x = .returned (.tuple #[.int .u64 b, .int .i64 m, .int .i64 e]) ∧ Below w.heap.size w w'
  rget : ∀ w, Calls Try.prog 32 #[.string s] w fun x w' => x = .returned (.tuple #[.int .u64 b, .int .i64 m, .int .i64 e]) ∧ Below w.heap.size w w'
  all : ∀ w, Calls Try.prog 33 #[.string s] w (AllP w R)
  rall : ∀ w, Calls Try.prog 34 #[.string s] w (AllP w R)
  put : ∀ w, Calls Try.prog 19 #[.int .u64 N] w fun x w' => x = .returned (.string P) ∧ Below w.heap.size w w'
  rput : ∀ w, Calls Try.prog 31 #[.int .u64 N] w fun x w' => x = .returned (.string P) ∧ Below w.heap.size w w'
  size : ∀ w, Calls Try.prog 35 #[.int .u64 N] w fun x w' => x = .returned (.int .i64 P.size) ∧ w' = w
  len : R.1.length ≤ 9223372036854775807
set_option maxRecDepth 100000 in
set_option maxHeartbeats 4000000 in
theorem reads_near (hP : PutC) (hG : GetC) (N : Nat) (s P : ByteArray) (b m e : Nat) (R : List Nat × Nat) (w : World) (hs : s.size ≤ 2000) (hf : ReadFacts N s P b m e R) :
    Calls Try.prog 8 #[.int .u64 N, .string s] w fun e w' => e = .returned (.bool true) ∧ Below w.heap.size w w' := by
  obtain ⟨xs, c⟩ := R
  go_enter Try.func8, Try.ntmps8
  go_wp2_with (first
    | (go_at_call 18; refine (awake2 hP hG _).mono ?_; rintro x w1 ⟨rfl, h1⟩)
    | (go_at_call 20; refine (hf.get _).mono ?_; rintro x w2 ⟨rfl, hb2⟩; have h2 := below_then2 h1 hb2)
    | (go_at_call 32; refine (hf.rget _).mono ?_; rintro x w3 ⟨rfl, hb3⟩; have h3 := below_then2 h2 hb3)
    | (go_at_call 33; refine (hf.all _).mono ?_; rintro x w4 ⟨v4, rfl, o4, hb4⟩; have h4 := below_then2 h3 hb4)
    | (go_at_call 34; refine (hf.rall _).mono ?_; rintro x w5 ⟨v5, rfl, q5, hb5⟩; have h5 := below_then2 h4 hb5; have o5 := own_below o4 hb5)
    | (go_at_call 19; refine (hf.put _).mono ?_; rintro x w6 ⟨rfl, hb6⟩; have h6 := below_then2 h5 hb6; have o6 := own_below o5 hb6; have q6 := own_below q5 hb6)
    | (go_at_call 31; refine (hf.rput _).mono ?_; rintro x w7 ⟨rfl, hb7⟩; first | (have h8 := below_then2 h7 hb7; have o8 := own_below o7 hb7; have q8 := own_below q7 hb7) | (have h7 := below_then2 h6 hb7; have o7 := own_below o6 hb7; have q7 := own_below q6 hb7))
    | (go_at_call 35; refine (hf.size _).mono ?_; rintro x w8 ⟨rfl, rfl⟩)
    | (go_at_call 36; refine (equal_own o8 q8 hf.len).mono ?_; rintro x w9 ⟨rfl, k9, rfl⟩))
  go_ret
  exact ⟨rfl, below_dn h8 _⟩
theorem u64_of {n : Int} (h : (Lit.int .u64 n).wf = true) : ∃ N : Nat, n = N ∧ N < 2 ^ 64 := by
  simp [Lit.wf, IntKind.min, IntKind.max, IntKind.bits, IntKind.signed] at h
  obtain ⟨N, rfl⟩ := Int.eq_ofNat_of_zero_le h.1
  exact ⟨N, rfl, by omega⟩
theorem read_facts (N : Nat) (s : ByteArray) (hN : N < 2 ^ 64) (hs : s.size ≤ 2000) :
    ReadFacts N s (strL (putL N)) (getL (bytesL s)).1 (getL (bytesL s)).2.1 (getL (bytesL s)).2.2 (readL (s.size + 1) [] (bytesL s)) :=
  ⟨getC_hand s, fun w => rget_hand s w (by omega), fun w => all_any getC_hand s w hs _ rfl, fun w => rall_any s w hs _ rfl, putC_hand N hN, rput_hand N hN, fun w => by
    have h := size_any N w hN
    rw [← strL_size] at h
    exact h, by
    have h := readL_len (s.size + 1) [] (bytesL s) (bytesL_byte s)
    rw [bytesL_len] at h
    simp at h
    omega⟩
theorem reads_any (n : Int) (s : ByteArray) (w : World) (hn : (Lit.int .u64 n).wf = true) (hs : s.size ≤ 140737488351232) :
    Calls Try.prog 8 #[.int .u64 n, .string s] w fun e w' => e = .returned (.bool true) ∧ Below w.heap.size w w' := by
  have hP : PutC := putC_hand
  have hG : GetC := getC_hand
  by_cases h : 2000 < s.size
  · exact reads_far hP hG n s w hs h
  · obtain ⟨N, rfl, hN⟩ := u64_of hn
    exact reads_near hP hG N s _ _ _ _ _ w (by omega) (read_facts N s hN (by omega))
end Go.Proofs.Ytmgjeoemnmcjoaa
