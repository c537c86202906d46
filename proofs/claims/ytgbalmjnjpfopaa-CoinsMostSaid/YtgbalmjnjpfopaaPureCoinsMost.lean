/- Coin systems: CoinsMost. -/
import Derived.Test.YtgbalmjnjpfopaaLMost
import Derived.Test.YtgbalmjnjpfopaaLBoth2
import Derived.Test.YtgbalmjnjpfopaaPCf11
namespace Go.Proofs.Ytgbalmjnjpfopaa.L
open Go.RowKit Go.Proofs.Ytgbalmjnjpfopaa.PC Go.Proofs.YtgbalmjnjpfopaaW.PrintWords Go.Proofs.YtgbalmjnjpfopaaW.PrintLast Go.Proofs.YtgbalmjnjpfopaaW.PrintMore Go.Proofs.Ytgbalmjnjpfopaa.M
theorem CoinsMost_pure : pomadelaw05_CoinsMost.Pure := by
  intro l a am _ _ _ _ _
  refine Ev.rounds ?_
  by_cases c : (l.length : Int) > 40
  · exact Ev.congr (fun k => by unfold pomadelaw05_CoinsMost.f; rw [if_pos c]) (Ev.bind alive_ev (Ev.now true))
  refine Ev.congr (fun k => by unfold pomadelaw05_CoinsMost.f; rw [if_neg c]) ?_
  obtain ⟨r, r1, r2⟩ := most_both l a
  obtain ⟨s, s1, s2⟩ := both_both l am
  refine Ev.bind r1 (Ev.bind r2 ?_)
  refine Ev.congr (f := fun k => pomadelaw05_CoinsMost.j0 k l am false) (fun k => by simp) ?_
  refine Ev.step (f := fun k => (coins_Both.f k l am).bind fun x => (pomaderef05_Both.f k l am).bind fun y => (if x.1 = y.1 then (if x.2 = y.2 then ((pomadelaw05_alive.f k).bind fun t474 => (some t474)) else (some false)) else (some false))) (fun k => ?_) ?_
  · simp only [pomadelaw05_CoinsMost.j0]; rw [if_neg (by simp)]
  refine Ev.bind s1 (Ev.bind s2 ?_)
  simp only [if_true]
  exact Ev.bind alive_ev (Ev.now true)
end Go.Proofs.Ytgbalmjnjpfopaa.L
namespace Go.Proofs.Ytgbalmjnjpfopaa.Pure
theorem CoinsMost : Go.Proofs.Ytgbalmjnjpfopaa.PC.pomadelaw05_CoinsMost.Pure := Go.Proofs.Ytgbalmjnjpfopaa.L.CoinsMost_pure
end Go.Proofs.Ytgbalmjnjpfopaa.Pure
