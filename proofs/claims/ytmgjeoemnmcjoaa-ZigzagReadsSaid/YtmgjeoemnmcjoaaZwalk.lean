/-
  ZigzagReads answers true for every two numbers and every text.
-/
import Derived.Test.YtmgjeoemnmcjoaaHZig
import Derived.Test.YtmgjeoemnmcjoaaNext
import GoSem.Claim
namespace Go.Proofs.Ytmgjeoemnmcjoaa
open Go.RowKit

theorem awake3 (w : World) : Calls Try.prog 22 #[] w fun e w' => e = .returned (.bool true) ∧ Below w.heap.size w w' := by
  have hP : PutC := putC_hand
  have hG : GetC := getC_hand
  have hm : ∀ w, Calls Try.prog 26 #[.int .i64 (-3)] w fun e w' => e = .returned (.int .u64 5) ∧ Below w.heap.size w w' := fun w => same_below (map_hand (-3) ⟨by decide, by decide⟩ w)
  have hb : ∀ w, Calls Try.prog 28 #[.int .u64 5] w fun e w' => e = .returned (.int .i64 (-3)) ∧ Below w.heap.size w w' := fun w => same_below (back_hand 5 (by decide) w)
  go_enter Try.func22, Try.ntmps22
  go_wp2_with (first
    | (go_at_call 38; refine (awake2' hP hG _).mono ?_; rintro e w1 ⟨rfl, h1⟩)
    | (go_at_call 26; refine (hm _).mono ?_; rintro e w2 ⟨rfl, h2⟩)
    | (go_at_call 28; refine (hb _).mono ?_; rintro e w3 ⟨rfl, h3⟩))
  go_ret
  exact ⟨rfl, below_then2 (below_then2 h1 h2) h3⟩
theorem znext_any {B : Nat} {w0 w : World} {g : Nat} {s : ByteArray} {a n m e : Nat} {b : Int} (h : At B w0 w g s a) (hL : getL ((bytesL s).drop a) = (n, m, e))
    (hb : ∀ w, Calls Try.prog 28 #[.int .u64 n] w fun e w' => e = .returned (.int .i64 b) ∧ Below w.heap.size w w') :
    Calls Try.prog 25 #[.pointer (some ⟨g, 0, none⟩)] w fun x w' => x = .returned (.tuple #[.int .i64 b, .int .i64 e]) ∧ At B w0 w' g s (a + m) := by
  have hn : ∀ w, At B w0 w g s a → Calls Try.prog 21 #[.pointer (some ⟨g, 0, none⟩)] w fun x w' => x = .returned (.tuple #[.int .u64 n, .int .i64 e]) ∧ At B w0 w' g s (a + m) := fun w h => next_c getC_hand h hL
  have HL := Lib.hid hL
  clear hL
  go_enter Try.func25, Try.ntmps25
  go_wp2_with (first
    | (go_at_call 21; refine (hn _ h).mono ?_; rintro x w1 ⟨rfl, h1⟩)
    | (go_at_call 28; refine (hb _).mono ?_; rintro x w2 ⟨rfl, h2⟩))
  go_ret2
  exact ⟨rfl, h1.below h2⟩
set_option maxRecDepth 100000 in
set_option maxHeartbeats 4000000 in
theorem zig_far (n z : Int) (s : ByteArray) (w : World) (hs : s.size ≤ 140737488351232) (h : 2000 < s.size) :
    Calls Try.prog 7 #[.int .i64 n, .int .u64 z, .string s] w fun e w' => e = .returned (.bool true) ∧ Below w.heap.size w w' := by
  go_enter Try.func7, Try.ntmps7
  go_wp2_with (go_at_call 22; refine (awake3 _).mono ?_; rintro e w1 ⟨rfl, h1⟩)
  go_ret
  exact ⟨rfl, h1⟩
/-- What is known of the numbers and the text. -/
structure ZigFacts (n : Int) (z : Int) (s P : ByteArray) (Z m e : Nat) (b B : Int) : Prop where
  get : ∀ w, Calls Try.prog 23 #[.string s] w fun x w' => x = .returned (.tuple #[.int .i64 b, .int .i64 m, .int .i64 e]) ∧ Below w.heap.size w w'
  rget : ∀ w, Calls Try.prog 24 #[.string s] w fun x w' => x = .returned (.tuple #[.int .i64 b, .int .i64 m, .int .i64 e]) ∧ Below w.heap.size w w'
  next : ∀ w0 w g, At w0.heap.size w0 w g s 0 → Calls Try.prog 25 #[.pointer (some ⟨g, 0, none⟩)] w fun x w' => x = .returned (.tuple #[.int .i64 b, .int .i64 e]) ∧ At w0.heap.size w0 w' g s m
  map : ∀ w, Calls Try.prog 26 #[.int .i64 n] w fun x w' => x = .returned (.int .u64 Z) ∧ Below w.heap.size w w'
  rmap : ∀ w, Calls Try.prog 27 #[.int .i64 n] w fun x w' => x = .returned (.int .u64 Z) ∧ Below w.heap.size w w'
  back : ∀ w, Calls Try.prog 28 #[.int .u64 z] w fun x w' => x = .returned (.int .i64 B) ∧ Below w.heap.size w w'
  rback : ∀ w, Calls Try.prog 29 #[.int .u64 z] w fun x w' => x = .returned (.int .i64 B) ∧ Below w.heap.size w w'
  put : ∀ w, Calls Try.prog 30 #[.int .i64 n] w fun x w' => x = .returned (.string P) ∧ Below w.heap.size w w'
  rput : ∀ w, Calls Try.prog 31 #[.int .u64 Z] w fun x w' => x = .returned (.string P) ∧ Below w.heap.size w w'
set_option maxRecDepth 100000 in
set_option maxHeartbeats 4000000 in
theorem zig_near (n z : Int) (s P : ByteArray) (Z m e : Nat) (b B : Int) (w : World) (hs : s.size ≤ 2000) (hf : ZigFacts n z s P Z m e b B) :
    Calls Try.prog 7 #[.int .i64 n, .int .u64 z, .string s] w fun e w' => e = .returned (.bool true) ∧ Below w.heap.size w w' := by
  go_enter Try.func7, Try.ntmps7
  go_wp2_with (first
    | (go_at_call 22; refine (awake3 _).mono ?_; rintro e w1 ⟨rfl, h1⟩)
    | (go_at_call 23; refine (hf.get _).mono ?_; rintro x w2 ⟨rfl, hb2⟩; have h2 := below_then2 h1 hb2)
    | (go_at_call 24; refine (hf.rget _).mono ?_; rintro x w3 ⟨rfl, hb3⟩; have h3 := below_then2 h2 hb3)
    | (go_at_call 10; refine (over_c h3 h3.size s (by omega)).mono ?_; rintro x w4 ⟨g, rfl, h4, _⟩)
    | (go_at_call 25; refine (hf.next _ _ _ h4).mono ?_; rintro x w5 ⟨rfl, h5⟩)
    | (go_at_call 26; refine (hf.map _).mono ?_; rintro x w6 ⟨rfl, hb6⟩; have h6 := h5.below hb6)
    | (go_at_call 28; refine (hf.back _).mono ?_; rintro x w8 ⟨rfl, hb8⟩; have h8 := h7.below hb8)
    | (go_at_call 29; refine (hf.rback _).mono ?_; rintro x w9 ⟨rfl, hb9⟩; have h9 := h8.below hb9)
    | (go_at_call 30; refine (hf.put _).mono ?_; rintro x w10 ⟨rfl, hb10⟩; have h10 := h9.below hb10)
    | (go_at_call 27; refine (hf.rmap _).mono ?_; rintro x w11 ⟨rfl, hb11⟩; first | (have h11 := h10.below hb11) | (have h7 := h6.below hb11))
    | (go_at_call 31; refine (hf.rput _).mono ?_; rintro x w12 ⟨rfl, hb12⟩; have h12 := h11.below hb12)
    | (go_at_call 16; refine (at_c h12).mono ?_; rintro x w13 ⟨rfl, h13, _⟩))
  go_ret
  exact ⟨rfl, h13.old⟩
theorem i64_of {n : Int} (h : (Lit.int .i64 n).wf = true) : I64 n := by
  simp [Lit.wf, IntKind.min, IntKind.max, IntKind.bits, IntKind.signed] at h
  exact h
theorem u64_of {n : Int} (h : (Lit.int .u64 n).wf = true) : ∃ N : Nat, n = N ∧ N < 2 ^ 64 := by
  simp [Lit.wf, IntKind.min, IntKind.max, IntKind.bits, IntKind.signed] at h
  obtain ⟨N, rfl⟩ := Int.eq_ofNat_of_zero_le h.1
  exact ⟨N, rfl, by omega⟩
theorem zig_facts (n : Int) (z : Nat) (s : ByteArray) (hn : I64 n) (hz : z < 2 ^ 64) (hs : s.size ≤ 2000) :
    ZigFacts n z s (strL (putL (zz n))) (zz n) (zgetL (bytesL s)).2.1 (zgetL (bytesL s)).2.2 (zgetL (bytesL s)).1 (bk z) :=
  ⟨zget_hand s, fun w => rzget_hand s w (by omega), fun w0 w g h => by
      have h1 := znext_any (n := (getL (bytesL s)).1) (m := (getL (bytesL s)).2.1) (e := (getL (bytesL s)).2.2) h rfl (fun w => same_below (back_hand _ (get_lt (bytesL s) (bytesL_byte s)) w))
      rw [Nat.zero_add] at h1
      exact h1,
    fun w => same_below (map_hand n hn w), fun w => same_below (rmap_hand n hn w), fun w => same_below (back_hand z hz w), fun w => same_below (rback_hand z hz w), zput_hand n hn, rput_hand (zz n) (zz_lt n hn.1 hn.2)⟩
theorem zig_any (n z : Int) (s : ByteArray) (w : World) (hn : (Lit.int .i64 n).wf = true) (hz : (Lit.int .u64 z).wf = true) (hs : s.size ≤ 140737488351232) :
    Calls Try.prog 7 #[.int .i64 n, .int .u64 z, .string s] w fun e w' => e = .returned (.bool true) ∧ Below w.heap.size w w' := by
  by_cases h : 2000 < s.size
  · exact zig_far n z s w hs h
  · obtain ⟨N, rfl, hN⟩ := u64_of hz
    exact zig_near n N s _ _ _ _ _ _ w (by omega) (zig_facts n N s (i64_of hn) hN (by omega))
end Go.Proofs.Ytmgjeoemnmcjoaa
