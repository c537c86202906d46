/- Plait: PlaitMeanders. -/
import Derived.Test.YtjfkompfkgjdaaaTMeP
import Derived.Test.YtjfkompfkgjdaaaTMeR
import Derived.Test.YtjfkompfkgjdaaaPCf4
namespace Go.Proofs.Ytjfkompfkgjdaaa.L
open Go.RowKit Go.Proofs.Ytjfkompfkgjdaaa.PC Go.Proofs.YtjfkompfkgjdaaaW.PrintWords Go.Proofs.YtjfkompfkgjdaaaW.PrintLast
theorem meand_both (n m : Int) (h : ¬ (5 < n ∧ n ≤ 7 ∧ 1 ≤ m ∧ m ≤ n)) : pomadelaw07_PlaitMeanders.j0 (3000 + 1) n m false = some true := by
  have e : ∃ r, plait_Meanders.f 3000 n m = some r ∧ pomaderef07_Meanders.f 3000 n m = some r := by
    by_cases c : 1 ≤ n ∧ n ≤ 7 ∧ 1 ≤ m ∧ m ≤ n
    · obtain ⟨c1, c2, c3, c4⟩ := c
      obtain ⟨a, rfl⟩ := Int.eq_ofNat_of_zero_le (show 0 ≤ n by omega)
      obtain ⟨b, rfl⟩ := Int.eq_ofNat_of_zero_le (show 0 ≤ m by omega)
      exact ⟨_, mp_all a b (by omega) (by omega) (by omega) (by omega), mr_all a b (by omega) (by omega) (by omega) (by omega)⟩
    · exact ⟨_, mp_bad n m c, mr_bad n m c⟩
  obtain ⟨r, h1, h2⟩ := e
  simp only [pomadelaw07_PlaitMeanders.j0]
  rw [if_neg (by simp), h1, h2]
  simp only [Option.bind_some, if_true]
  rfl
theorem PlaitMeanders_pure : pomadelaw07_PlaitMeanders.Pure := by
  intro n m _ _
  refine ⟨3000 + 1, ?_⟩
  unfold pomadelaw07_PlaitMeanders.f
  by_cases c1 : n > 5
  · rw [if_pos c1]
    by_cases c2 : n ≤ 7
    · rw [if_pos c2]
      by_cases c3 : m ≥ 1
      · rw [if_pos c3]
        by_cases c4 : m ≤ n
        · rw [decide_eq_true c4]
          simp only [pomadelaw07_PlaitMeanders.j0]
          rfl
        · rw [decide_eq_false c4]; exact meand_both n m (by omega)
      · rw [if_neg c3]; exact meand_both n m (by omega)
    · rw [if_neg c2]; exact meand_both n m (by omega)
  · rw [if_neg c1]; exact meand_both n m (by omega)
end Go.Proofs.Ytjfkompfkgjdaaa.L
namespace Go.Proofs.Ytjfkompfkgjdaaa.Pure
theorem PlaitMeanders : Go.Proofs.Ytjfkompfkgjdaaa.PC.pomadelaw07_PlaitMeanders.Pure := Go.Proofs.Ytjfkompfkgjdaaa.L.PlaitMeanders_pure
end Go.Proofs.Ytjfkompfkgjdaaa.Pure
