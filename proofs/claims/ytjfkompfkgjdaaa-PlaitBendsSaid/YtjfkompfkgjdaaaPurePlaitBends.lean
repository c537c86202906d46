/- Plait: PlaitBends: Bend and Arches return what the specification returns. -/
import Derived.Test.YtjfkompfkgjdaaaLBend
import Derived.Test.YtjfkompfkgjdaaaPCf11
namespace Go.Proofs.Ytjfkompfkgjdaaa.L
open Go.RowKit Go.Proofs.Ytjfkompfkgjdaaa.PC Go.Proofs.YtjfkompfkgjdaaaW.PrintWords Go.Proofs.YtjfkompfkgjdaaaW.PrintLast Go.Proofs.Ytjfkompfkgjdaaa.G
theorem PlaitBends_pure : pomadelaw07_PlaitBends.Pure := by
  intro a0 s l _ _ _ _ _
  refine Ev.rounds (g := fun k => pomadelaw07_PlaitBends.f k a0 s l) ?_
  have alive : ∀ x, x = true → Ev (fun k => pomadelaw07_PlaitBends.j0 k a0 s l x) true := fun x hx =>
    Ev.step (f := fun _ => some true) (fun k => by simp only [pomadelaw07_PlaitBends.j0]; rw [if_pos hx]; rfl) (Ev.now _)
  by_cases c : (s.size : Int) > 50
  · exact Ev.congr (fun k => by unfold pomadelaw07_PlaitBends.f; rw [if_pos c]) (alive true rfl)
  · by_cases c1 : (l.length : Int) > 50
    · exact Ev.congr (fun k => by unfold pomadelaw07_PlaitBends.f; rw [if_neg c]) (alive _ (decide_eq_true c1))
    · obtain ⟨r, hr, b1, b2, _⟩ := bend_both a0 s (by omega)
      obtain ⟨q, a1, a2, _⟩ := arches_both l
      have last : Ev (fun k => pomadelaw07_PlaitBends.j1 k l false) true := by
        refine Ev.step (f := fun k => (plait_Arches.f k l).bind fun bt542 => ((pomaderef07_Arches.f k l).bind fun bt544 => (if bt542.1.toList = bt544.1.toList then (if bt542.2 = bt544.2 then ((pomadelaw07_alive.f).bind fun t546 => (some t546)) else (some false)) else (some false)))) (fun k => by simp only [pomadelaw07_PlaitBends.j1]; rw [if_neg (by decide)]) ?_
        refine Ev.bind a1 ?_
        refine Ev.bind a2 ?_
        exact Ev.congr (f := fun _ => some true) (fun k => by rw [if_pos rfl, if_pos rfl]; rfl) (Ev.now _)
      refine Ev.congr (f := fun k => pomadelaw07_PlaitBends.j0 k a0 s l false) (fun k => by unfold pomadelaw07_PlaitBends.f; rw [if_neg c, decide_eq_false c1]) ?_
      refine Ev.step (f := fun k => (plait_Bend.f k a0 s).bind fun bt533 => ((pomaderef07_Bend.f k a0 s).bind fun bt537 => ((pomadelaw07_same.f k bt533.1 bt537.1).bind fun t541 => (if t541 = true then (pomadelaw07_PlaitBends.j1 k l (bt533.2 != bt537.2)) else (pomadelaw07_PlaitBends.j1 k l true))))) (fun k => by simp only [pomadelaw07_PlaitBends.j0]; rw [if_neg (by decide)]) ?_
      refine Ev.bind b1 ?_
      refine Ev.bind b2 ?_
      refine Ev.bind (same_ev (by omega)) ?_
      exact Ev.congr (fun k => by rw [if_pos rfl, show (r.2 != r.2) = false from bne_self_eq_false ..]) last
end Go.Proofs.Ytjfkompfkgjdaaa.L
namespace Go.Proofs.Ytjfkompfkgjdaaa.Pure
theorem PlaitBends : Go.Proofs.Ytjfkompfkgjdaaa.PC.pomadelaw07_PlaitBends.Pure := Go.Proofs.Ytjfkompfkgjdaaa.L.PlaitBends_pure
end Go.Proofs.Ytjfkompfkgjdaaa.Pure
