/- Chairs: ChairsTrees. -/
import Derived.Test.YtfopeenjpdaacaaLTree
import Derived.Test.YtfopeenjpdaacaaPCf13
namespace Go.Proofs.Ytfopeenjpdaacaa.L
open Go.RowKit Go.Proofs.Ytfopeenjpdaacaa.PC Go.Proofs.YtfopeenjpdaacaaW.PrintWords Go.Proofs.YtfopeenjpdaacaaW.PrintLast
theorem ChairsTrees_pure : pomadelaw03_ChairsTrees.Pure := by
  intro w t _ _ _ _ _ _
  refine Ev.rounds ?_
  by_cases c1 : (w.length : Int) > 60
  · refine Ev.congr (fun k => by unfold pomadelaw03_ChairsTrees.f; rw [if_pos c1]) (Ev.step (f := fun _ => some true) (fun k => ?_) (Ev.now true))
    simp only [pomadelaw03_ChairsTrees.j0]; rfl
  by_cases c2 : (t.length : Int) > 60
  · refine Ev.congr (fun k => by unfold pomadelaw03_ChairsTrees.f; rw [if_neg c1, decide_eq_true c2]) (Ev.step (f := fun _ => some true) (fun k => ?_) (Ev.now true))
    simp only [pomadelaw03_ChairsTrees.j0]; rfl
  refine Ev.congr (fun k => by unfold pomadelaw03_ChairsTrees.f; rw [if_neg c1, decide_eq_false c2]) ?_
  obtain ⟨r, h1, h2, h3, _⟩ := tree_both w (by omega)
  obtain ⟨s, g1, g2, g3, _⟩ := wishes_both t (by omega)
  obtain ⟨v, i1, i2⟩ := inv_both t (by omega)
  refine Ev.step (fun k => by simp only [pomadelaw03_ChairsTrees.j0]; rw [if_neg (by simp)]) (Ev.bind h1 (Ev.bind h2 (Ev.bind (same_ev r.1 (by omega)) ?_)))
  simp only [if_true, bne_self_eq_false]
  refine Ev.step (fun k => by simp only [pomadelaw03_ChairsTrees.j1]; rw [if_neg (by simp)]) (Ev.bind g1 (Ev.bind g2 (Ev.bind (same_ev s.1 (by omega)) ?_)))
  simp only [if_true, bne_self_eq_false]
  refine Ev.step (fun k => by simp only [pomadelaw03_ChairsTrees.j2]; rw [if_neg (by simp)]) (Ev.bind i1 (Ev.bind i2 ?_))
  simp only [if_true]
  exact Ev.now true
end Go.Proofs.Ytfopeenjpdaacaa.L
namespace Go.Proofs.Ytfopeenjpdaacaa.Pure
theorem ChairsTrees : Go.Proofs.Ytfopeenjpdaacaa.PC.pomadelaw03_ChairsTrees.Pure := Go.Proofs.Ytfopeenjpdaacaa.L.ChairsTrees_pure
end Go.Proofs.Ytfopeenjpdaacaa.Pure
