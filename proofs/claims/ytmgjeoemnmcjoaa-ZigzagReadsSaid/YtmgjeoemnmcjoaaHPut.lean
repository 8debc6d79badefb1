/-
  varint.Put, walked: what it writes is the plain list's putL. For every number of 64 bits.
-/
import Derived.Test.YtmgjeoemnmcjoaaAwb
import Derived.Laws.AppendOwn
import Derived.Laws.IdiomStrings
import Derived.OwnWalk
namespace Go.Proofs.Ytmgjeoemnmcjoaa
open Go.RowKit

/-- The bytes as cells. -/
def u8s (l : List Nat) : List Value := l.map fun x : Nat => Value.int .u8 (x : Int)
theorem u8_nil (w : World) (b : Nat) : w.ownsRow b 5 1 (.slice none 0 0) 0 (u8s []) := ⟨rfl, .inl ⟨rfl, rfl⟩⟩
theorem u8_snoc {w : World} {b : Nat} {v : Value} {l : List Nat} {c : Nat} {x : Int} (h : w.ownsRow b 5 1 v (l.length + 1) (u8s l ++ [Value.int .u8 x])) (hx : x = c) : w.ownsRow b 5 1 v (l ++ [c]).length (u8s (l ++ [c])) := by
  subst hx
  have e1 : (l ++ [c]).length = l.length + 1 := by simp
  have e2 : u8s (l ++ [c]) = u8s l ++ [Value.int .u8 (c : Int)] := by simp [u8s]
  rw [e1, e2]
  exact h
theorem flat_add (b j : Nat) : (⟨b, 0, none⟩ : Addr).add j = ⟨b, j, none⟩ := by unfold Addr.add; split <;> simp_all
theorem own_str {w : World} {b : Nat} {v : Value} {l : List Nat} (h : w.ownsRow b 5 1 v l.length (u8s l)) (hb : ∀ c ∈ l, c < 256) (hl : l ≠ []) : (convert 35 9 v).run Try.prog w = .ok (.string (strL l)) w := by
  rcases h.2 with ⟨_, hn⟩ | ⟨g, cap, cur, rfl, _⟩
  · exact absurd (List.eq_nil_of_length_eq_zero hn) hl
  · have h1 := run_convert_bytes_back (P := Try.prog) w 35 9 5 ⟨g, 0, none⟩ cap (l.map UInt8.ofNat) Try.underlying35 Try.underlying5 Try.underlying9 (fun j hj => by
      rw [List.length_map] at hj
      have h2 := h.cells (g := g) rfl j (.int .u8 (l[j] : Int)) (by simp [u8s, List.getElem?_eq_getElem hj])
      rw [h2, List.getElem_map]
      have h3 := hb l[j] (List.getElem_mem hj)
      simp
      omega)
    rw [List.length_map] at h1
    rw [h1]
    have e : strL l = ⟨(l.map UInt8.ofNat).toArray⟩ := by
      apply bytes_ext
      rw [strL_data]
    rw [e]
theorem own8_lt {w : World} {b n : Nat} {v : Value} {xs : List Value} (h : w.ownsRow b 5 1 v n xs) : ∀ k, v.ownBlock = some k → b ≤ k := fun k hk => (h.lt k hk).1
theorem Try.info5 : (Try.prog.info? 5).map (fun i => (i.zero, i.size, i.bytes)) = some (some (.int .u8 0), 1, 1) := by kernel_rfl
/-- The state at a round's head: l is written, n is still to be written. -/
structure PutS (w W : World) (P l : List Nat) (n : Nat) (v : Value) : Prop where
  own : W.ownsRow w.heap.size 5 1 v l.length (u8s l)
  old : Below w.heap.size w W
  all : l ++ putL n = P
  lt : n < 2 ^ 64
theorem PutS.len {w W : World} {P l : List Nat} {n : Nat} {v : Value} (h : PutS w W P l n v) (hP : P.length ≤ 10) : l.length < 10 := by
  have h1 := putL_pos n
  have h2 := congrArg List.length h.all
  rw [List.length_append] at h2
  omega

set_option maxRecDepth 100000 in
set_option maxHeartbeats 4000000 in
theorem put_hand (N : Nat) (hN : N < 2 ^ 64) (w : World) : Calls Try.prog 19 #[.int .u64 N] w fun e w' => e = .returned (.string (strL (putL N))) ∧ Below w.heap.size w w' := by
  obtain ⟨i0, hi, hz0, hz1, hz2⟩ := info_parts Try.info5
  have hP10 := putL_ten hN
  have hPb := putL_byte N
  have h0 : PutS w w (putL N) [] N (.slice none 0 0) := ⟨u8_nil _ _, Below.refl _ _, rfl, hN⟩
  obtain ⟨P, hP⟩ : ∃ P, P = putL N := ⟨_, rfl⟩
  rw [← hP] at h0 hP10 hPb ⊢
  have HI := Lib.hid hi
  have HZ0 := Lib.hid hz0
  have HZ1 := Lib.hid hz1
  have HZ2 := Lib.hid hz2
  have HPB := Lib.hid hPb
  clear hi hz0 hz1 hz2 hPb hP hN
  go_enter Try.func19, Try.ntmps19
  go_wp2
  go_loopw [0, 3] (fun v0 v3 wr => ∃ (n : Nat) (l : List Nat), v0 = .int .u64 n ∧ PutS w wr P l n v3) (fun v0 _ _ => (intOf v0).toNat)
  case atStart => exact ⟨N, [], rfl, h0⟩
  case round =>
    obtain ⟨n, l, rfl, hst⟩ := hrel
    clear h0
    have hlen := hst.len hP10
    have hall := hst.all
    have hown := hst.own
    have hsz := hst.old.size
    have hlt := hst.lt
    by_cases h128 : 128 ≤ n
    · rw [putL_big (by omega)] at hall
      have hor := or8 n
      have HALL := Lib.hid hall
      have HOR := Lib.hid hor
      have HLT := Lib.hid hlt
      clear hall hor hlt
      go_wp2_with (at_builtin; refine wpList_append_own _ rfl _ _ 35 rfl w.heap.size 5 i0 (.int .u8 0) 1 1 Try.underlying35 HI.out HZ0.out HZ1.out HZ2.out rfl (by decide) _ _ _ rfl (hown.alloc _) ⟨wr.heap.size, 0, none⟩ 1 1 [.int .u8 (Go.bits .or .u8 ((n : Int) % 256) 128)] rfl rfl ?c1 ?c2 ?c3 ?c4 ?c5 ?_; (case c1 => intro j u hj; cases j with | zero => (rw [flat_add]; simpa using hj) | succ j => simp at hj); (case c2 => simp [Value.oneCell']); (case c3 => unfold maxLen; omega); (case c4 => omega); (case c5 => simp; omega); intro v' w4 ho hg _; have o4 := u8_snoc ho HOR.out; have b4 := (hst.old.alloc hsz _).grown hg (by simp; omega) (own8_lt hown); clear ho hg)
      go_roundw
      case rel => exact ⟨n / 128, l ++ [n % 128 + 128], by simp, o4, b4, by rw [List.append_assoc]; exact HALL.out, by have := HLT.out; omega⟩
      case measure => simp [intOf]; omega
    · have hn : n < 128 := by omega
      rw [putL_small hn] at hall
      have HALL := Lib.hid hall
      clear hall hlt
      go_wp2_with (at_builtin; refine wpList_append_own _ rfl _ _ 35 rfl w.heap.size 5 i0 (.int .u8 0) 1 1 Try.underlying35 HI.out HZ0.out HZ1.out HZ2.out rfl (by decide) _ _ _ rfl (hown.alloc _) ⟨wr.heap.size, 0, none⟩ 1 1 [.int .u8 (n : Int)] rfl rfl ?c1 ?c2 ?c3 ?c4 ?c5 ?_; (case c1 => intro j u hj; cases j with | zero => (rw [flat_add]; simpa using hj) | succ j => simp at hj); (case c2 => simp [Value.oneCell']); (case c3 => unfold maxLen; omega); (case c4 => omega); (case c5 => simp; omega); intro v' w4 ho hg _; have o4 := u8_snoc ho rfl; have b4 := (hst.old.alloc hsz _).grown hg (by simp; omega) (own8_lt hown); clear ho hg; rw [HALL.out] at o4; have hcv := own_str o4 HPB.out (by intro h; have := congrArg List.length HALL.out; rw [h] at this; simp at this))
      go_ret
      exact ⟨rfl, b4⟩
theorem putC_hand : PutC := put_hand
end Go.Proofs.Ytmgjeoemnmcjoaa
