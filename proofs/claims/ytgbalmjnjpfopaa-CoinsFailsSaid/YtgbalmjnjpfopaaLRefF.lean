/- Coin systems: what the specification's Fails returns. -/
import Derived.Test.YtgbalmjnjpfopaaLRef
import Derived.Test.YtgbalmjnjpfopaaPCf23
namespace Go.Proofs.Ytgbalmjnjpfopaa.L
open Go.RowKit Go.Proofs.Ytgbalmjnjpfopaa.PC Go.Proofs.YtgbalmjnjpfopaaW.PrintWords Go.Proofs.YtgbalmjnjpfopaaW.PrintLast Go.Proofs.Ytgbalmjnjpfopaa.M

theorem rFails_ev (l : List Int) (hs : Sys l) (r : Int) (hr : Res l r) : Ev (fun k => pomaderef05_Fails.f k l) (if r > 0 then (r, 0) else (0, 10)) := by
  refine Ev.bind ((issys_ev l).1 hs) ?_
  simp only [if_true]
  refine Ev.bind (rfails_ev l hs r hr) ?_
  have := (res_nonneg hs hr).1
  by_cases h : r = 0
  · rw [show (if r > 0 then (r, (0 : Int)) else (0, 10)) = (0, 10) from if_neg (by omega)]; exact Ev.congr (fun k => if_pos h) (Ev.now _)
  · rw [show (if r > 0 then (r, (0 : Int)) else (0, 10)) = (r, 0) from if_pos (by omega)]; exact Ev.congr (fun k => if_neg h) (Ev.now _)
theorem rFails_bad (l : List Int) (hs : ¬ Sys l) : Ev (fun k => pomaderef05_Fails.f k l) (0, 2) := Ev.bind ((issys_ev l).2 hs) (Ev.now _)
end Go.Proofs.Ytgbalmjnjpfopaa.L
