/- Coin systems: CoinsFails. -/
import Derived.Test.YtgbalmjnjpfopaaLRefF
import Derived.Test.YtgbalmjnjpfopaaLExt
import Derived.Test.YtgbalmjnjpfopaaPCf9
namespace Go.Proofs.Ytgbalmjnjpfopaa.L
open Go.RowKit Go.Proofs.Ytgbalmjnjpfopaa.PC Go.Proofs.YtgbalmjnjpfopaaW.PrintWords Go.Proofs.YtgbalmjnjpfopaaW.PrintLast Go.Proofs.Ytgbalmjnjpfopaa.M
theorem failsj_ev (l : List Int) (a : Int) : Ev (fun k => pomadelaw05_CoinsFails.j0 k l a false) true := by
  refine Ev.step (f := fun k => (coins_Extend.f k l a).bind fun x => (pomaderef05_Extend.f k l a).bind fun y => (if (x.1 == y.1) = true then (if x.2 = y.2 then ((pomadelaw05_alive.f k).bind fun t413 => (some t413)) else (some false)) else (some false))) (fun k => ?_) ?_
  · simp only [pomadelaw05_CoinsFails.j0]; rw [if_neg (by simp)]
  refine Ev.bind (ext_ev l a) (Ev.bind (rext_ev l a) ?_)
  simp only [beq_self_eq_true, if_true]
  exact Ev.bind alive_ev (Ev.now true)
/-- what Fails tells -/
noncomputable def failsV (l : List Int) : Int × Int := open Classical in if Sys l then (if RV l > 0 then (RV l, 0) else (0, 10)) else (0, 2)
theorem failsV_ev (l : List Int) : Ev (fun k => coins_Fails.f k l) (failsV l) := by
  unfold failsV
  by_cases hs : Sys l
  · rw [if_pos hs]; exact Fails_ev l hs _ (RV_res hs)
  · rw [if_neg hs]; exact Fails_bad l hs
theorem rfailsV_ev (l : List Int) : Ev (fun k => pomaderef05_Fails.f k l) (failsV l) := by
  unfold failsV
  by_cases hs : Sys l
  · rw [if_pos hs]; exact rFails_ev l hs _ (RV_res hs)
  · rw [if_neg hs]; exact rFails_bad l hs
theorem CoinsFails_pure : pomadelaw05_CoinsFails.Pure := by
  intro l a _ _ _ _
  refine Ev.rounds ?_
  by_cases c : (l.length : Int) > 40
  · exact Ev.congr (fun k => by unfold pomadelaw05_CoinsFails.f; rw [if_pos c]) (Ev.bind alive_ev (Ev.now true))
  refine Ev.congr (fun k => by unfold pomadelaw05_CoinsFails.f; rw [if_neg c]) ?_
  refine Ev.bind (failsV_ev l) (Ev.bind (rfailsV_ev l) ?_)
  refine Ev.congr (fun k => ?_) (failsj_ev l a)
  rw [if_pos rfl]; simp
end Go.Proofs.Ytgbalmjnjpfopaa.L
namespace Go.Proofs.Ytgbalmjnjpfopaa.Pure
theorem CoinsFails : Go.Proofs.Ytgbalmjnjpfopaa.PC.pomadelaw05_CoinsFails.Pure := Go.Proofs.Ytgbalmjnjpfopaa.L.CoinsFails_pure
end Go.Proofs.Ytgbalmjnjpfopaa.Pure
