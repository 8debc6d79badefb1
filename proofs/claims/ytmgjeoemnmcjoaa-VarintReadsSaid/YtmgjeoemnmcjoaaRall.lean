/-
  The document's All, out of its printed function: the plain readL. For texts of at most 2,000 bytes.
-/
import Derived.Test.YtmgjeoemnmcjoaaRVarintReads
import Derived.Test.YtmgjeoemnmcjoaaAll
namespace Go.Proofs.Ytmgjeoemnmcjoaa.GVarintReads
open Go.RowKit Go.Proofs.YtmgjeoemnmcjoaaW.PrintWords Go.Proofs.YtmgjeoemnmcjoaaW.PrintLast Go.Proofs.YtmgjeoemnmcjoaaW.PrintMore Go.Proofs.Ytmgjeoemnmcjoaa.PVarintReads

theorem rget_k (s : ByteArray) (k : Nat) (hk : 45 < k) : postmarkref02_Get.f k s = some (tri (getL (bytesL s))) :=
  rget_l0 s 10 k 0 (by decide) (Nat.zero_le _) (fun q _ h => by omega) (by omega)
theorem rall_l0 (f : Nat) : ∀ (k : Nat) (x : ByteArray) (acc : List Nat), x.size < f → f + 50 ≤ k → acc.length + x.size ≤ 10000 →
    postmarkref02_All.l0 k x (acc.map Int.ofNat) = some ((readL f acc (bytesL x)).1.map Int.ofNat, ((readL f acc (bytesL x)).2 : Int)) := by
  induction f with
  | zero => intro k x acc hx; omega
  | succ f ih =>
    intro k x acc hx hk ha
    obtain ⟨k, rfl⟩ : ∃ m, k = m + 1 := ⟨k - 1, by omega⟩
    simp only [postmarkref02_All.l0]
    by_cases h0 : 0 < x.size
    · have hne : bytesL x ≠ [] := by
        intro h
        have := bytesL_len x
        rw [h] at this
        simp at this
        omega
      have hb := bytesL_byte x
      have hle := get_le (bytesL x) hb
      rw [bytesL_len] at hle
      rw [if_pos (by omega : (x.size : Int) > 0), rget_k x k (by omega)]
      simp only [Option.bind_some, tri]
      by_cases he : (getL (bytesL x)).2.2 = 0
      · have hpos := get_pos (bytesL x) hb he
        have hd : bytesL (x.extract (getL (bytesL x)).2.1 x.size) = (bytesL x).drop (getL (bytesL x)).2.1 := by
          rw [bytesL_extract, List.take_of_length_le (by rw [bytesL_len]; exact Nat.le_refl _)]
        have hsz : (x.extract (getL (bytesL x)).2.1 x.size).size = x.size - (getL (bytesL x)).2.1 := by
          rw [← bytesL_len, hd, List.length_drop, bytesL_len]
        rw [if_pos (by omega : ((getL (bytesL x)).2.2 : Int) = 0), if_pos (by rw [List.length_map]; omega), if_pos (Int.natCast_nonneg _), if_pos (by omega : ((getL (bytesL x)).2.1 : Int) ≤ (x.size : Int)), Int.toNat_natCast, readL_ok f acc _ hne he, ← hd]
        rw [← ih k (x.extract (getL (bytesL x)).2.1 x.size) (acc ++ [(getL (bytesL x)).1]) (by omega) (by omega) (by rw [hsz, List.length_append, List.length_singleton]; omega)]
        rw [List.map_append]
        rfl
      · rw [if_neg (by omega : ¬ ((getL (bytesL x)).2.2 : Int) = 0), readL_err f acc _ hne he]
        rfl
    · have hnil : bytesL x = [] := List.eq_nil_of_length_eq_zero (by rw [bytesL_len]; omega)
      rw [if_neg (by omega : ¬ (x.size : Int) > 0), hnil, readL_nil]
      rfl
theorem rall_f (s : ByteArray) (hs : s.size ≤ 2000) : postmarkref02_All.f 3000 s = some ((readL (s.size + 1) [] (bytesL s)).1.map Int.ofNat, ((readL (s.size + 1) [] (bytesL s)).2 : Int)) :=
  rall_l0 (s.size + 1) 3000 s [] (by omega) (by omega) (by simp; omega)
theorem rall_c (s : ByteArray) (w : World) (hs : s.size ≤ 2000) : Calls Try.prog 34 #[.string s] w (AllP w (readL (s.size + 1) [] (bytesL s))) :=
  (postmarkref02_All.calls 3000 s _ _ w (rall_f s hs)).mono fun _ _ ⟨v, he, hr, hb⟩ => ⟨v, he, by
    have h1 := Kd.own_of_R hr
    rw [List.length_map] at h1
    have e : encs (Value.int .u64) ((readL (s.size + 1) [] (bytesL s)).1.map Int.ofNat) = u64s (readL (s.size + 1) [] (bytesL s)).1 := by
      unfold encs u64s
      rw [List.map_map]
      rfl
    rw [e] at h1
    exact h1, hb⟩
end Go.Proofs.Ytmgjeoemnmcjoaa.GVarintReads
