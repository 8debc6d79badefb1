/-
  VarintTakes, the walk: over any numbers and any text the call answers true, where Put and Get answer as the plain lists say.
-/
import Derived.Test.YtmgjeoemnmcjoaaNext
import Derived.Test.YtmgjeoemnmcjoaaQuiet
import Derived.Deep.LoopGhost
namespace Go.Proofs.Ytmgjeoemnmcjoaa
open Go.RowKit

/-- The numbers ns lie in the slice that came in. -/
def Nums (w : World) (A : Option Addr) (ns : List Nat) : Prop := ∀ (i n : Nat), ns[i]? = some n → n < 2 ^ 64 ∧ ∃ b o, A = some ⟨b, o, none⟩ ∧ w.cell? ⟨b, o + i, none⟩ = some (.int .u64 n)
/-- The numbers, written one behind the other. -/
def allL (ns : List Nat) : List Nat := ns.flatMap putL
theorem allL_byte (ns : List Nat) : ∀ c ∈ allL ns, c < 256 := by
  intro c hc
  simp only [allL, List.mem_flatMap] at hc
  obtain ⟨n, _, hn⟩ := hc
  exact putL_byte n c hn
theorem allL_snoc (ns : List Nat) (k : Nat) (n : Nat) (h : ns[k]? = some n) : allL (ns.take (k + 1)) = allL (ns.take k) ++ putL n := by
  have hk := (List.getElem?_eq_some_iff.1 h)
  obtain ⟨hlt, he⟩ := hk
  rw [List.take_succ_eq_append_getElem hlt, he]
  simp [allL]
theorem strL_append (a b : List Nat) : strL (a ++ b) = strL a ++ strL b := by
  apply bytes_ext
  rw [strL_data]
  simp [ByteArray.data_append, strL_data]
theorem allL_len (ns : List Nat) (h : ∀ n ∈ ns, n < 2 ^ 64) : (allL ns).length ≤ 10 * ns.length := by
  induction ns with
  | nil => simp [allL]
  | cons n r ih =>
    have h1 := putL_ten (h n (by simp))
    have h2 := ih (fun m hm => h m (by simp [hm]))
    simp only [allL, List.flatMap_cons, List.length_append, List.length_cons] at h2 ⊢
    omega
theorem take_len (ns : List Nat) (k : Nat) (h : ∀ n ∈ ns, n < 2 ^ 64) (hk : k ≤ 60) : (strL (allL (ns.take k))).size ≤ 600 := by
  rw [strL_size]
  have h1 := allL_len (ns.take k) (fun n hn => h n (List.mem_of_mem_take hn))
  have h2 := List.length_take_le k ns
  omega
theorem add_flat2 (b o j : Nat) : (⟨b, o, none⟩ : Addr).add j = ⟨b, o + j, none⟩ := by unfold Addr.add; split <;> simp_all
theorem nums_lt {w : World} {A : Option Addr} {ns : List Nat} (h : Nums w A ns) : ∀ n ∈ ns, n < 2 ^ 64 := by
  intro n hn
  obtain ⟨i, hi⟩ := List.getElem?_of_mem hn
  exact (h i n hi).1

theorem next_put (hG : GetC) {B : Nat} {w0 w : World} {g : Nat} {s : ByteArray} {a n m : Nat} (h : At B w0 w g s a) (hL : getL ((bytesL s).drop a) = (n, m, 0)) :
    Calls Try.prog 21 #[.pointer (some ⟨g, 0, none⟩)] w fun x w' => x = .returned (.tuple #[.int .u64 n, .int .i64 0]) ∧ At B w0 w' g s (a + m) := next_c hG h hL
theorem next_get (hG : GetC) {B : Nat} {w0 w : World} {g : Nat} {s : ByteArray} {a n m e : Nat} (h : At B w0 w g s a) (hL : getL ((bytesL s).drop a) = (n, m, e)) :
    Calls Try.prog 21 #[.pointer (some ⟨g, 0, none⟩)] w fun x w' => x = .returned (.tuple #[.int .u64 n, .int .i64 e]) ∧ At B w0 w' g s (a + m) := next_c hG h hL
theorem rest_as {W : World} {g : Nat} {s t : ByteArray} {a : Nat} (h : Cur W g s a) (hs : s.size ≤ 9223372036854775807) (ha : a ≤ s.size) (ht : s.extract a s.size = t) (n : Nat) :
    Calls Try.prog 15 #[.pointer (some ⟨g, 0, none⟩)] (W.drewN n) fun e w' => e = .returned (.string t) ∧ ∃ m, w' = W.drewN m := by
  subst ht
  exact Calls.quiet_of (rest_any _ g s a (h.drewN _) hs ha)
theorem get_at (T s : ByteArray) (ns : List Nat) (hT : bytesL T = allL ns) (j n : Nat) (hj : ns[j]? = some n) (hn : n < 2 ^ 64) :
    getL ((bytesL (T ++ s)).drop (allL (ns.take j)).length) = (n, (putL n).length, 0) := by
  obtain ⟨hlt, he⟩ := List.getElem?_eq_some_iff.1 hj
  have h1 : ns = ns.take j ++ (n :: ns.drop (j + 1)) := by rw [← he, ← List.drop_eq_getElem_cons hlt, List.take_append_drop]
  have h2 : allL ns = allL (ns.take j) ++ (putL n ++ allL (ns.drop (j + 1))) := by
    conv => lhs; rw [h1]
    simp [allL]
  rw [bytesL_append, hT, h2, List.append_assoc, List.drop_left, List.append_assoc]
  exact get_put n _ hn
theorem get_rest (T s : ByteArray) (ns : List Nat) (hT : bytesL T = allL ns) : getL ((bytesL (T ++ s)).drop (allL ns).length) = getL (bytesL s) := by
  rw [bytesL_append, hT, List.drop_left]
theorem rest_eq (T s : ByteArray) (ns : List Nat) (hT : bytesL T = allL ns) (m : Nat) : (T ++ s).extract ((allL ns).length + m) (T ++ s).size = s.extract m s.size := by
  apply bytesL_inj
  rw [bytesL_extract, bytesL_extract, List.take_of_length_le (by rw [bytesL_len]; exact Nat.le_refl _), List.take_of_length_le (by rw [bytesL_len]; exact Nat.le_refl _), bytesL_append, hT, ← List.drop_drop, List.drop_left]

set_option maxRecDepth 100000 in
set_option maxHeartbeats 4000000 in
theorem vtakes_far (hP : PutC) (hG : GetC) (s : ByteArray) (A : Option Addr) (len cap : Nat) (w : World) (hs : s.size ≤ 140737488351232) (hl : len ≤ 9223372036854775807) (h : 2000 < s.size ∨ 60 < len) :
    Calls Try.prog 6 #[.slice A len cap, .string s] w fun e w' => e = .returned (.bool true) ∧ Below w.heap.size w w' := by
  go_enter Try.func6, Try.ntmps6
  by_cases h2 : 2000 < s.size
  · go_wp2_with (go_at_call 18; refine (awake2 hP hG _).mono ?_; rintro e w1 ⟨rfl, h1⟩)
    go_ret
    exact ⟨rfl, h1⟩
  · have h3 : 60 < len := by omega
    clear h
    go_wp2_with (go_at_call 18; refine (awake2 hP hG _).mono ?_; rintro e w1 ⟨rfl, h1⟩)
    go_ret
    exact ⟨rfl, h1⟩
set_option maxRecDepth 100000 in
set_option maxHeartbeats 4000000 in
theorem vtakes_near (hP : PutC) (hG : GetC) (s : ByteArray) (A : Option Addr) (ns : List Nat) (cap : Nat) (w : World) (hs : s.size ≤ 2000) (hl : ns.length ≤ 60) (h : Nums w A ns) :
    Calls Try.prog 6 #[.slice A ns.length cap, .string s] w fun e w' => e = .returned (.bool true) ∧ Below w.heap.size w w' := by
  have hlt := nums_lt h
  obtain ⟨len, hln⟩ : ∃ len, len = ns.length := ⟨_, rfl⟩
  rw [← hln] at hl ⊢
  have HLN := Lib.hid hln
  clear hln
  go_enter Try.func6, Try.ntmps6
  go_wp2_with (go_at_call 18; refine (awake2 hP hG _).mono ?_; rintro e w1 ⟨rfl, h1⟩)
  go_loopw [5, 32] (fun v5 v32 wr => ∃ k : Nat, k ≤ len ∧ v32 = .int .i64 k ∧ v5 = .string (strL (allL (ns.take k))) ∧ Below w.heap.size w wr) (fun _ i _ => len - (intOf i).toNat)
  case atStart => exact ⟨0, Nat.zero_le _, rfl, by simp [allL]; rfl, h1⟩
  case round =>
    obtain ⟨k, hk, rfl, rfl, hb⟩ := hrel
    by_cases hkl : k < len
    · have hkn : k < ns.length := by have := HLN.out; omega
      obtain ⟨n64, b, o, rfl, c0⟩ := h k ns[k] (List.getElem?_eq_getElem hkn)
      have hsn := allL_snoc ns k ns[k] (List.getElem?_eq_getElem hkn)
      generalize ns[k] = n at n64 c0 hsn
      have z1 := take_len ns k hlt (by omega)
      have z2 : (strL (putL n)).size ≤ 10 := by rw [strL_size]; exact putL_ten n64
      have z3 : ¬ 9223372036854775807 < (strL (allL (List.take k ns))).size + (strL (putL n)).size := by omega
      have HSN := Lib.hid hsn
      have HN := Lib.hid n64
      have ea := add_flat2 b o k
      have c1 : wr.cell? ⟨b, o + k, none⟩ = some (.int .u64 n) := (hb.cell (World.block_lt_of_cell? w ⟨b, o + k, none⟩ c0)).trans c0
      clear hsn n64 c0 h hlt
      go_wp2_with (go_at_call 19; refine (hP n HN.out _).mono ?_; rintro e w2 ⟨rfl, hb2⟩)
      go_roundw
      case rel => exact ⟨k + 1, by omega, by go_num, by rw [HSN.out, strL_append], below_then2 hb hb2⟩
      case measure => simp [intOf]; omega
    · have hkl2 : ns.length ≤ k := by have := HLN.out; omega
      rw [List.take_of_length_le hkl2]
      have hT : (strL (allL ns)).size ≤ 600 := by have := take_len ns k hlt (by omega); rw [List.take_of_length_le hkl2] at this; exact this
      have hTL : bytesL (strL (allL ns)) = allL ns := bytesL_strL _ (allL_byte ns)
      have hTp : (strL (allL ns)).size = (allL ns).length := strL_size _
      have HTL := Lib.hid hTL
      have HTP := Lib.hid hTp
      clear hTL hTp
      generalize strL (allL ns) = T at hT HTL HTP ⊢
      have hts : (T ++ s).size ≤ 9223372036854775807 := by rw [ByteArray.size_append]; omega
      have HTS := Lib.hid hts
      have hkk : ¬ (k < len) := hkl
      clear hts hkl hkl2 h1
      obtain ⟨b, m, e, hL⟩ : ∃ b m e, getL (bytesL s) = (b, m, e) := ⟨_, _, _, rfl⟩
      have hm : m ≤ s.size := by
        have := get_le (bytesL s) (bytesL_byte s)
        rw [hL, bytesL_len] at this
        exact this
      have HL := Lib.hid hL
      clear hL
      go_wp2_with (go_at_call 10; refine (over_c hb hb.size (T ++ s) HTS.out).mono ?_; rintro e w2 ⟨g, rfl, h2, _⟩)
      go_loopw [47] (fun v47 wr => ∃ j : Nat, j ≤ len ∧ v47 = .int .i64 j ∧ At w.heap.size w wr g (T ++ s) (allL (ns.take j)).length) (fun i _ => len - (intOf i).toNat)
      case atStart => exact ⟨0, Nat.zero_le _, rfl, by simpa [allL] using h2⟩
      case round =>
        obtain ⟨j, hj, rfl, hat⟩ := hrel
        clear h2 hb
        by_cases hjl : j < len
        · have hjn : j < ns.length := by have := HLN.out; omega
          obtain ⟨n64, b, o, rfl, c0⟩ := h j ns[j] (List.getElem?_eq_getElem hjn)
          have hgt := get_at T s ns HTL.out j ns[j] (List.getElem?_eq_getElem hjn) n64
          have hsn := allL_snoc ns j ns[j] (List.getElem?_eq_getElem hjn)
          generalize ns[j] = n at n64 c0 hsn hgt
          have HSN := Lib.hid hsn
          have HGT := Lib.hid hgt
          have ea := add_flat2 b o j
          have c1 : wr.cell? ⟨b, o + j, none⟩ = some (.int .u64 n) := (hat.old.cell (World.block_lt_of_cell? w ⟨b, o + j, none⟩ c0)).trans c0
          clear hsn n64 c0 h hlt hgt
          go_wp2_with (go_at_call 21; refine (next_put hG hat HGT.out).mono ?_; rintro e w3 ⟨rfl, h3⟩)
          go_roundw
          case rel => exact ⟨j + 1, by omega, by go_num, by rw [HSN.out, List.length_append]; exact h3⟩
          case measure => simp [intOf]; omega
        · have hjl2 : ns.length ≤ j := by have := HLN.out; omega
          rw [List.take_of_length_le hjl2] at hat
          have HGR := Lib.hid ((get_rest T s ns HTL.out).trans HL.out)
          have hgs : ∀ w, Calls Try.prog 20 #[.string s] w fun x w' => x = .returned (.tuple #[.int .u64 b, .int .i64 m, .int .i64 e]) ∧ Below w.heap.size w w' := by
            intro w
            have h1 := hG s w
            rw [HL.out] at h1
            exact h1
          clear h hlt hjl2
          go_wp2_with (first
            | (go_at_call 21; ((with_reducible refine (next_get hG hat HGR.out).mono ?_); rintro x w3 ⟨rfl, h3⟩))
            | (go_at_call 20; refine (hgs _).mono ?_; rintro x w4 ⟨rfl, hb4⟩; have h4 := h3.below hb4)
            | (go_at_call 21; ((with_reducible refine (next_nil _).mono ?_); rintro x w5 ⟨rfl, rfl⟩)))
          have HRE := Lib.hid (rest_eq T s ns HTL.out m)
          have hcur := h4.cur
          have hle := h4.le
          go_quiet ((go_at_call 15; exact rest_as hcur HTS.out hle HRE.out _))
          go_wp2
          go_ret
          exact ⟨rfl, below_dn h4.old _⟩
end Go.Proofs.Ytmgjeoemnmcjoaa
