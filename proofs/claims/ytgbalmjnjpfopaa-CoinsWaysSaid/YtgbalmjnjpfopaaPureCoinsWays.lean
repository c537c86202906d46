/- The number of changes that the program tells is the one of the specification, or its error, for every list of at most 40 coins and every amount. -/
import Derived.Test.YtgbalmjnjpfopaaPCx7
import Derived.Test.YtgbalmjnjpfopaaLWays
namespace Go.Proofs.Ytgbalmjnjpfopaa.Pure
open Go.RowKit Go.Proofs.Ytgbalmjnjpfopaa.PC Go.Proofs.YtgbalmjnjpfopaaW.PrintWords Go.Proofs.YtgbalmjnjpfopaaW.PrintLast Go.Proofs.Ytgbalmjnjpfopaa.L

theorem CoinsWays : pomadelaw05_CoinsWays.Pure := by
  intro l a _ _ _ _
  refine Ev.rounds ?_
  by_cases c : (l.length : Int) > 40
  · exact Ev.congr (fun k => by unfold pomadelaw05_CoinsWays.f; rw [if_pos c]) (Ev.bind alive_ev (Ev.now true))
  · refine Ev.congr (fun k => by unfold pomadelaw05_CoinsWays.f; rw [if_neg c]) ?_
    refine Ev.bind (waysV_ev l a) (Ev.bind (refWaysV_ev l a) ?_)
    simp only [if_true]
    exact Ev.bind alive_ev (Ev.now true)
end Go.Proofs.Ytgbalmjnjpfopaa.Pure
