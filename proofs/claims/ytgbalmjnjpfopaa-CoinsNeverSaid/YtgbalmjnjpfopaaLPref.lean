/- Coin systems: what Prefixes tells. -/
import Derived.Test.YtgbalmjnjpfopaaLBest
import Derived.Test.YtgbalmjnjpfopaaPCf21
namespace Go.Proofs.Ytgbalmjnjpfopaa.L
open Go.RowKit Go.Proofs.Ytgbalmjnjpfopaa.PC Go.Proofs.YtgbalmjnjpfopaaW.PrintWords Go.Proofs.YtgbalmjnjpfopaaW.PrintLast Go.Proofs.Ytgbalmjnjpfopaa.M

/-- the judgements of the first q beginnings -/
noncomputable def judged (l : List Int) (q : Nat) : List Bool := (List.range q).map fun k => (RV (l.take (k + 1)) == 0)
theorem judged_succ (l : List Int) (q : Nat) : judged l (q + 1) = judged l q ++ [RV (l.take (q + 1)) == 0] := by simp [judged, List.range_succ]
theorem judged_len (l : List Int) (q : Nat) : (judged l q).length = q := by simp [judged]
theorem prefixes_loop (l : List Int) (hs : Sys l) (d : Nat) : ∀ q : Nat, q + d = l.length → Ev (fun k => coins_Prefixes.l0 k l (judged l q) (l.length : Int) (q : Int)) (judged l l.length, 0) := by
  have hlen := hs.2.1
  induction d with
  | zero =>
    intro q hq
    obtain rfl : q = l.length := by omega
    refine Ev.step (f := fun _ => some (judged l l.length, 0)) (fun k => ?_) (Ev.now _)
    simp only [coins_Prefixes.l0]
    rw [if_neg (by omega)]
  | succ d ih =>
    intro q hq
    have hst := sys_take' hs (q + 1) (by omega) (by omega)
    refine Ev.step (f := fun k => (coins_fails.f k (l.take (q + 1))).bind fun t314 => coins_Prefixes.l0 k l (judged l q ++ [(t314 == 0)]) (l.length : Int) ((q : Int) + 1)) (fun k => ?_) ?_
    · simp only [coins_Prefixes.l0]
      rw [if_pos (by omega), w64 (x := (q : Int) + 1) (by omega) (by omega), if_pos (by omega), if_pos (by omega), show ((q : Int) + 1).toNat = q + 1 from by omega]
      simp only [if_pos (show (judged l q).length < 140737488355328 by rw [judged_len]; omega)]
    · refine Ev.bind (fails_ev _ hst _ (RV_res hst)) ?_
      rw [← judged_succ]
      exact ih (q + 1) (by omega)
theorem prefixes_ev (l : List Int) (hs : Sys l) : Ev (fun k => coins_Prefixes.f k l) (judged l l.length, 0) := by
  refine Ev.bind ((valid_ev l).1 hs) ?_
  simp only [if_true]
  exact prefixes_loop l hs l.length 0 (by omega)
theorem prefixes_bad (l : List Int) (hs : ¬ Sys l) : Ev (fun k => coins_Prefixes.f k l) ([], 2) := Ev.bind ((valid_ev l).2 hs) (Ev.now _)
end Go.Proofs.Ytgbalmjnjpfopaa.L
