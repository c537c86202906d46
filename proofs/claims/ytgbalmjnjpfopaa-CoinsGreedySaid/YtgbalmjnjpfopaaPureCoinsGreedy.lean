/- The greedy change of the program is the one of the specification, with the same error, for every list of at most 40 coins and every amount; the argument stays as it was. -/
import Derived.Test.YtgbalmjnjpfopaaPCx7
import Derived.Test.YtgbalmjnjpfopaaLGreedy
namespace Go.Proofs.Ytgbalmjnjpfopaa.Pure
open Go.RowKit Go.Proofs.Ytgbalmjnjpfopaa.PC Go.Proofs.YtgbalmjnjpfopaaW.PrintWords Go.Proofs.YtgbalmjnjpfopaaW.PrintLast Go.Proofs.Ytgbalmjnjpfopaa.L

theorem CoinsGreedy : pomadelaw05_CoinsGreedy.Pure := by
  intro l a _ _ _ _
  refine Ev.rounds ?_
  by_cases c : (l.length : Int) > 40
  · exact Ev.congr (fun k => by unfold pomadelaw05_CoinsGreedy.f; rw [if_pos c]) (Ev.bind alive_ev (Ev.now true))
  · refine Ev.congr (f := fun k => (coins_Greedy.f k l a).bind fun bt252 => ((pomaderef05_Greedy.f k l a).bind fun bt256 => ((pomadelaw05_same.f k bt252.1 bt256.1).bind fun t260 => (if t260 = true then (if bt252.2 = bt256.2 then ((pomadelaw05_same.f k l l).bind fun t261 => (if t261 = true then ((pomadelaw05_alive.f k).bind fun t262 => (some t262)) else (some false))) else (some false)) else (some false))))) (fun k => ?_) ?_
    · unfold pomadelaw05_CoinsGreedy.f
      rw [if_neg c]
      simp only [Option.bind_some, List.nil_append]
      rw [if_pos (by simp; omega)]
    · refine Ev.bind (greedyV_ev l a) (Ev.bind (refGreedyV_ev l a) (Ev.bind (same_ev _ (by have := greedyV_len l a (by omega); omega)) ?_))
      simp only [if_true]
      refine Ev.bind (same_ev l (by omega)) ?_
      simp only [if_true]
      exact Ev.bind alive_ev (Ev.now true)
end Go.Proofs.Ytgbalmjnjpfopaa.Pure
