/- For each beginning of a system the program's judgement whether greed never fails is the one of the specification, with the same error, for every list of at most 40 coins. -/
import Derived.Test.YtgbalmjnjpfopaaPCf7
import Derived.Test.YtgbalmjnjpfopaaLBest
import Derived.Test.YtgbalmjnjpfopaaLRef
namespace Go.Proofs.Ytgbalmjnjpfopaa.L
open Go.RowKit Go.Proofs.Ytgbalmjnjpfopaa.PC Go.Proofs.YtgbalmjnjpfopaaW.PrintWords Go.Proofs.YtgbalmjnjpfopaaW.PrintLast Go.Proofs.Ytgbalmjnjpfopaa.M

/-- the judgements of the first q beginnings -/
noncomputable def judged (l : List Int) (q : Nat) : List Bool := (List.range q).map fun k => (RV (l.take (k + 1)) == 0)
theorem judged_succ (l : List Int) (q : Nat) : judged l (q + 1) = judged l q ++ [RV (l.take (q + 1)) == 0] := by simp [judged, List.range_succ]
theorem judged_len (l : List Int) (q : Nat) : (judged l q).length = q := by simp [judged]
theorem prefixes_loop (l : List Int) (hs : Sys l) (d : Nat) : ∀ q : Nat, q + d = l.length → Ev (fun k => coins_Prefixes.l0 k l (judged l q) (l.length : Int) (q : Int)) (judged l l.length, 0) := by
  have hlen := hs.2.1
  induction d with
  | zero =>
    intro q hq
    obtain rfl : q = l.length := by omega
    refine Ev.step (f := fun _ => some (judged l l.length, 0)) (fun k => ?_) (Ev.now _)
    simp only [coins_Prefixes.l0]
    rw [if_neg (by omega)]
  | succ d ih =>
    intro q hq
    have hst := sys_take' hs (q + 1) (by omega) (by omega)
    refine Ev.step (f := fun k => (coins_fails.f k (l.take (q + 1))).bind fun t314 => coins_Prefixes.l0 k l (judged l q ++ [(t314 == 0)]) (l.length : Int) ((q : Int) + 1)) (fun k => ?_) ?_
    · simp only [coins_Prefixes.l0]
      rw [if_pos (by omega), w64 (x := (q : Int) + 1) (by omega) (by omega), if_pos (by omega), if_pos (by omega), show ((q : Int) + 1).toNat = q + 1 from by omega]
      simp only [if_pos (show (judged l q).length < 140737488355328 by rw [judged_len]; omega)]
    · refine Ev.bind (fails_ev _ hst _ (RV_res hst)) ?_
      rw [← judged_succ]
      exact ih (q + 1) (by omega)
theorem rprefixes_loop (l : List Int) (hs : Sys l) (d : Nat) : ∀ q : Nat, q + d = l.length → Ev (fun k => pomaderef05_Prefixes.l0 k l (judged l q) ((q : Int) + 1)) (judged l l.length, 0) := by
  have hlen := hs.2.1
  induction d with
  | zero =>
    intro q hq
    obtain rfl : q = l.length := by omega
    refine Ev.step (f := fun _ => some (judged l l.length, 0)) (fun k => ?_) (Ev.now _)
    simp only [pomaderef05_Prefixes.l0]
    rw [if_neg (by omega)]
  | succ d ih =>
    intro q hq
    have hst := sys_take' hs (q + 1) (by omega) (by omega)
    refine Ev.step (f := fun k => (pomaderef05_fails.f k (l.take (q + 1))).bind fun t339 => pomaderef05_Prefixes.l0 k l (judged l q ++ [(t339 == 0)]) (((q + 1 : Nat) : Int) + 1)) (fun k => ?_) ?_
    · simp only [pomaderef05_Prefixes.l0]
      rw [if_pos (by omega), if_pos (by omega), show ((q : Int) + 1).toNat = q + 1 from by omega]
      simp only [if_pos (show (judged l q).length < 140737488355328 by rw [judged_len]; omega), w64 (x := (q : Int) + 1 + 1) (by omega) (by omega)]
      rfl
    · refine Ev.bind (rfails_ev _ hst _ (RV_res hst)) ?_
      rw [← judged_succ]
      exact ih (q + 1) (by omega)
theorem prefixes_ev (l : List Int) (hs : Sys l) : Ev (fun k => coins_Prefixes.f k l) (judged l l.length, 0) := by
  refine Ev.bind ((valid_ev l).1 hs) ?_
  simp only [if_true]
  exact prefixes_loop l hs l.length 0 (by omega)
theorem rprefixes_ev (l : List Int) (hs : Sys l) : Ev (fun k => pomaderef05_Prefixes.f k l) (judged l l.length, 0) := by
  refine Ev.bind ((issys_ev l).1 hs) ?_
  simp only [if_true]
  exact rprefixes_loop l hs l.length 0 (by omega)
theorem prefixes_bad (l : List Int) (hs : ¬ Sys l) : Ev (fun k => coins_Prefixes.f k l) ([], 2) := Ev.bind ((valid_ev l).2 hs) (Ev.now _)
theorem rprefixes_bad (l : List Int) (hs : ¬ Sys l) : Ev (fun k => pomaderef05_Prefixes.f k l) ([], 2) := Ev.bind ((issys_ev l).2 hs) (Ev.now _)
/-- equal lists pass the law's loop -/
theorem prefixes_same (b : List Bool) (hb : b.length ≤ 1000) (d : Nat) : ∀ q : Nat, q + d = b.length → Ev (fun k => pomadelaw05_CoinsPrefixes.l0 k b b (q : Int)) true := by
  induction d with
  | zero =>
    intro q hq
    refine Ev.step (f := fun k => (pomadelaw05_alive.f k).bind fun t => some t) (fun k => ?_) (Ev.bind alive_ev (Ev.now true))
    simp only [pomadelaw05_CoinsPrefixes.l0]
    rw [if_neg (by omega)]
  | succ d ih =>
    intro q hq
    refine Ev.step (fun k => ?_) (ih (q + 1) (by omega))
    simp only [pomadelaw05_CoinsPrefixes.l0]
    rw [if_pos (by omega), if_pos (by omega), if_pos (by omega), if_neg (by simp), w64 (by omega) (by omega)]
    rfl
theorem prefixes_j0 (b : List Bool) (hb : b.length ≤ 1000) : Ev (fun k => pomadelaw05_CoinsPrefixes.j0 k b b false) true :=
  Ev.step (f := fun k => pomadelaw05_CoinsPrefixes.l0 k b b 0) (fun k => by simp only [pomadelaw05_CoinsPrefixes.j0]; rw [if_neg (by simp)]) (prefixes_same b hb b.length 0 (by omega))
theorem CoinsPrefixes_pure : pomadelaw05_CoinsPrefixes.Pure := by
  intro l _ _ _
  refine Ev.rounds ?_
  by_cases c : (l.length : Int) > 40
  · exact Ev.congr (fun k => by unfold pomadelaw05_CoinsPrefixes.f; rw [if_pos c]) (Ev.bind alive_ev (Ev.now true))
  refine Ev.congr (fun k => by unfold pomadelaw05_CoinsPrefixes.f; rw [if_neg c]) ?_
  by_cases hs : Sys l
  · refine Ev.bind (prefixes_ev l hs) (Ev.bind (rprefixes_ev l hs) ?_)
    refine Ev.congr (fun k => ?_) (prefixes_j0 (judged l l.length) (by rw [judged_len]; omega))
    rw [if_pos rfl]; rfl
  · refine Ev.bind (prefixes_bad l hs) (Ev.bind (rprefixes_bad l hs) ?_)
    refine Ev.congr (fun k => ?_) (prefixes_j0 [] (by simp))
    rw [if_pos rfl]; rfl
end Go.Proofs.Ytgbalmjnjpfopaa.L
namespace Go.Proofs.Ytgbalmjnjpfopaa.Pure
theorem CoinsPrefixes : Go.Proofs.Ytgbalmjnjpfopaa.PC.pomadelaw05_CoinsPrefixes.Pure := Go.Proofs.Ytgbalmjnjpfopaa.L.CoinsPrefixes_pure
end Go.Proofs.Ytgbalmjnjpfopaa.Pure
