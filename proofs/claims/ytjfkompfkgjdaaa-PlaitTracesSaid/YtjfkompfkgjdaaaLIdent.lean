/- The identity, by the program and by the specification. -/
import Derived.Test.YtjfkompfkgjdaaaLSelf
import Derived.Test.YtjfkompfkgjdaaaPCg4
import Derived.Test.YtjfkompfkgjdaaaPCf28
namespace Go.Proofs.Ytjfkompfkgjdaaa.L
open Go.RowKit Go.Proofs.Ytjfkompfkgjdaaa.PC Go.Proofs.YtjfkompfkgjdaaaW.PrintWords Go.Proofs.YtjfkompfkgjdaaaW.PrintLast Go.Proofs.Ytjfkompfkgjdaaa.G
/-- every point with the one across -/
def idf (n z : Nat) : Nat := if z < n then z + n else z - n
def idL (n : Nat) : List Int := (List.range (2 * n)).map (fun z => (idf n z : Int))
theorem idL_len (n : Nat) : (idL n).length = 2 * n := by simp [idL]
theorem idL_rd {n z : Nat} (h : z < 2 * n) : rd (idL n) (z : Int) = (idf n z : Int) := rd_range _ _ _ h
theorem idf_mat {n : Nat} : Mat n (idf n) := by
  intro z hz
  unfold idf
  by_cases c : z < n
  · rw [if_pos c, if_neg (by omega)]; omega
  · rw [if_neg c, if_pos (by omega)]; omega
theorem lm_of_fun {n : Nat} {l : List Int} {f : Nat → Nat} (hl : l.length = 2 * n) (h : ∀ z : Nat, z < 2 * n → rd l (z : Int) = (f z : Int)) (hf : Mat n f) : LM n l ∧ ∀ z, z < 2 * n → fn l z = f z := by
  have e : ∀ z, z < 2 * n → fn l z = f z := fun z hz => by
    show (rd l (z : Int)).toNat = _
    rw [h z hz, Int.toNat_natCast]
  exact ⟨⟨hl, fun z hz => by rw [h z hz, e z hz], mat_congr e hf⟩, e⟩
theorem idL_lm (n : Nat) : LM n (idL n) := (lm_of_fun (idL_len n) (fun z hz => idL_rd hz) idf_mat).1
theorem identity_l0 {n : Nat} (hn : n ≤ 1000) (d : Nat) : ∀ (j : Nat) (l : List Int), j + d = n → l.length = 2 * n → (∀ i : Nat, i < j → rd l (i : Int) = ((n + i : Nat) : Int) ∧ rd l ((n + i : Nat) : Int) = (i : Int)) → Ev (fun k => plait_identity.l0 k (n : Int) l (n : Int) (j : Int)) (idL n) := by
  induction d with
  | zero =>
    intro j l hj hl hr
    obtain rfl : j = n := by omega
    have e : l = idL j := by
      refine list_eq (by rw [idL_len, hl]) (fun z hz => ?_)
      rw [idL_rd (by omega)]
      unfold idf
      by_cases c : z < j
      · rw [if_pos c, (hr z c).1]; omega
      · rw [if_neg c]
        have := (hr (z - j) (by omega)).2
        rwa [show j + (z - j) = z by omega] at this
    rw [e]
    refine Ev.step (f := fun _ => some (idL j)) (fun k => ?_) (Ev.now _)
    simp only [plait_identity.l0]
    rw [if_neg (by omega)]
  | succ d ih =>
    intro j l hj hl hr
    have lo : n + j < (l.set j ((n + j : Nat) : Int)).length := by simp; omega
    refine Ev.step (fun k => ?_) (ih (j + 1) ((l.set j ((n + j : Nat) : Int)).set (n + j) (j : Int)) (by omega) (by simpa using hl) (fun i hi => ?_))
    · simp only [plait_identity.l0]
      rw [if_pos (by omega), if_pos (by omega), if_pos (by omega), pw64 (x := (n : Int) + (j : Int)) (by omega) (by omega), pw64 (x := (j : Int) + 1) (by omega) (by omega), if_pos (by omega), if_pos (by omega), Int.toNat_natCast, show ((n : Int) + (j : Int)).toNat = n + j by omega]
      rfl
    · rw [rd_set _ _ _ _ lo, rd_set _ _ _ _ (by omega), rd_set _ _ _ _ lo, rd_set _ _ _ _ (by omega)]
      by_cases c : i = j
      · subst c
        rw [if_neg (by omega), if_pos rfl, if_pos rfl]; exact ⟨rfl, rfl⟩
      · rw [if_neg (by omega), if_neg c, if_neg (by omega), if_neg (by omega)]
        exact hr i (by omega)
theorem identity_ev {n : Nat} (hn : n ≤ 1000) : Ev (fun k => plait_identity.f k (n : Int)) (idL n) := by
  refine Ev.congr (fun k => ?_) (identity_l0 hn n 0 (List.replicate (2 * n) 0) (by omega) (by simp) (fun i hi => by omega))
  unfold plait_identity.f
  have e : wrap64 (2 * (n : Int)) = ((2 * n : Nat) : Int) := by rw [pw64 (by omega) (by omega)]; omega
  rw [e, if_pos (by omega), if_pos (by omega), Int.toNat_natCast]
  rfl
theorem refidentity_l0 {n : Nat} (hn : n ≤ 1000) (d : Nat) : ∀ (j : Nat), j + d = 2 * n → Ev (fun k => pomaderef07_Identity.l0 k (n : Int) ((List.range j).map (fun z => (idf n z : Int))) (j : Int)) (idL n) := by
  have e2 : wrap64 (2 * (n : Int)) = ((2 * n : Nat) : Int) := by rw [pw64 (by omega) (by omega)]; omega
  induction d with
  | zero =>
    intro j hj
    obtain rfl : j = 2 * n := by omega
    refine Ev.step (f := fun _ => some (idL n)) (fun k => ?_) (Ev.now _)
    simp only [pomaderef07_Identity.l0]
    rw [e2, if_neg (by omega)]; rfl
  | succ d ih =>
    intro j hj
    refine Ev.step (fun k => ?_) (ih (j + 1) (by omega))
    simp only [pomaderef07_Identity.l0]
    have e3 : Int.tmod ((j : Int) + (n : Int)) ((2 * n : Nat) : Int) = (idf n j : Int) := by
      rw [Int.tmod_eq_emod_of_nonneg (by omega)]
      unfold idf
      by_cases c : j < n
      · rw [if_pos c, Int.emod_eq_of_lt (by omega) (by omega)]; omega
      · rw [if_neg c, show (j : Int) + (n : Int) = ((j - n : Nat) : Int) + ((2 * n : Nat) : Int) * 1 by omega, Int.add_mul_emod_self_left, Int.emod_eq_of_lt (by omega) (by omega)]
    rw [e2, if_pos (by omega), if_neg (by omega), if_pos (by simp; omega), pw64 (x := (j : Int) + (n : Int)) (by omega) (by omega), pw64 (by omega) (by omega), e3, List.range_succ, List.map_append]
    rfl
theorem refidentity_ev {n : Nat} (hn : n ≤ 1000) : Ev (fun k => pomaderef07_Identity.f k (n : Int)) (idL n) := Ev.congr (fun k => rfl) (refidentity_l0 hn (2 * n) 0 (by omega))
end Go.Proofs.Ytjfkompfkgjdaaa.L
