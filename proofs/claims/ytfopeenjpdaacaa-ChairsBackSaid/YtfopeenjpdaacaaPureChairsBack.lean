/- Chairs: ChairsBack. -/
import Derived.Test.YtfopeenjpdaacaaLTree
import Derived.Test.YtfopeenjpdaacaaPCf12
namespace Go.Proofs.Ytfopeenjpdaacaa.L
open Go.RowKit Go.Proofs.Ytfopeenjpdaacaa.PC Go.Proofs.YtfopeenjpdaacaaW.PrintWords Go.Proofs.YtfopeenjpdaacaaW.PrintLast Go.Proofs.Ytfopeenjpdaacaa.MWood
theorem back_tree (t : List Int) (hl : t.length ≤ 60) : Ev (fun k => pomadelaw03_ChairsBack.j1 k t) true := by
  obtain ⟨s, g1, _, g3, g4, g5, g6⟩ := wishes_both t (by omega)
  refine Ev.step (fun k => pomadelaw03_ChairsBack.j1.eq_2 t k) (Ev.bind g1 ?_)
  by_cases h : s.2 = 0
  · refine Ev.congr (fun k => if_pos h) ?_
    obtain ⟨Q, L, R, hL⟩ := g5 h
    have hw := (tree_iff t).1 (g4.symm.trans h)
    have hlt := R.lt
    have n1 := hw.n1
    have n30 := hw.n30
    refine Ev.bind (Good_ev _ _) (Ev.bind (Tree_run R (by omega) (by omega)) ?_)
    unfold GoodV
    rw [if_pos ((row_iff _ _).2 (run_row R (by omega) (by omega)))]
    refine Ev.congr (fun k => by rw [if_pos rfl, if_pos (run_good R (by omega) (by omega)), if_pos rfl]) (Ev.bind (same_ev t (by omega)) ?_)
    simp only [if_true]
    exact Ev.now true
  · refine Ev.congr (fun k => if_neg h) (Ev.bind (isTree_ev t (by omega)) ?_)
    refine Ev.congr (fun k => ?_) (Ev.now true)
    rw [if_pos g4, if_pos (by rw [g6 h]; rfl)]
    rfl
theorem ChairsBack_pure : pomadelaw03_ChairsBack.Pure := by
  intro w t _ _ _ _ _ _
  refine Ev.rounds ?_
  by_cases c1 : (w.length : Int) > 60
  · refine Ev.congr (fun k => by unfold pomadelaw03_ChairsBack.f; rw [if_pos c1]) (Ev.step (f := fun _ => some true) (fun k => ?_) (Ev.now true))
    simp only [pomadelaw03_ChairsBack.j0]; rfl
  by_cases c2 : (t.length : Int) > 60
  · refine Ev.congr (fun k => by unfold pomadelaw03_ChairsBack.f; rw [if_neg c1, decide_eq_true c2]) (Ev.step (f := fun _ => some true) (fun k => ?_) (Ev.now true))
    simp only [pomadelaw03_ChairsBack.j0]; rfl
  refine Ev.congr (fun k => by unfold pomadelaw03_ChairsBack.f; rw [if_neg c1, decide_eq_false c2]) ?_
  obtain ⟨r, h1, _, _, h4⟩ := tree_both w (by omega)
  have hb := back_tree t (by omega)
  refine Ev.step (fun k => by simp only [pomadelaw03_ChairsBack.j0]; rw [if_neg (by simp)]) (Ev.bind h1 ?_)
  by_cases h : r.2 = 0
  · refine Ev.congr (fun k => if_pos h) ?_
    obtain ⟨Q, L, R, hL, n1, n30⟩ := h4 h
    have hv := run_wood R hL n1 n30
    refine Ev.bind (Wishes_run R hv) ?_
    refine Ev.congr (fun k => if_pos rfl) (Ev.bind (same_ev w (by omega)) ?_)
    simp only [if_true]
    refine Ev.bind (isTree_ev r.1 (by rw [R.lt]; omega)) ?_
    exact Ev.congr (fun k => if_pos hv) hb
  · exact Ev.congr (fun k => if_neg h) hb
end Go.Proofs.Ytfopeenjpdaacaa.L
namespace Go.Proofs.Ytfopeenjpdaacaa.Pure
theorem ChairsBack : Go.Proofs.Ytfopeenjpdaacaa.PC.pomadelaw03_ChairsBack.Pure := Go.Proofs.Ytfopeenjpdaacaa.L.ChairsBack_pure
end Go.Proofs.Ytfopeenjpdaacaa.Pure
