-- Printed by a program of this session (mkprint.sh, over the kit's print.py), with own proofs for the functions that the print does not take.
import Derived.Test.YtfopeenjpdaacaaPCx0
import Derived.Test.YtfopeenjpdaacaaHRoot
namespace Go.Proofs.Ytfopeenjpdaacaa.PC
open Go.RowKit Go.Proofs.YtfopeenjpdaacaaW.PrintWords Go.Proofs.YtfopeenjpdaacaaW.PrintLast Go.Proofs.YtfopeenjpdaacaaW.PrintMore
attribute [local go_sem] max2_int min2_int max_two min_two max_three min_three max_four min_four   -- for this text's walks alone
set_option linter.unusedVariables false
set_option linter.unusedSimpArgs false

/-! ### chairs_rooted: function 62 -/
/-- the errors of parents -/
def chairs_rooted.f (l0 : List Int) : Option Int :=
  if l0.length = 0 ∨ l0.length > 30 then some 3 else if l0.any (fun x => decide (x < 0 ∨ (l0.length : Int) < x)) = true then some 2 else some (if rootsFrom l0 0 l0.length = true then 0 else 2)

theorem chairs_rooted.calls (A0 : Option Addr) (c0 : Nat) (l0 : List Int) (r : Int) (w : World) (hr0 : Kd.C (Kd.int .i64) w A0 l0.length l0) (hc0 : l0.length ≤ c0) (h : chairs_rooted.f l0 = some r) :
    Calls Try.prog 62 #[.slice A0 l0.length c0] w fun e w' => e = .returned (.int .i64 r) ∧ Below w.heap.size w w' := by
  unfold chairs_rooted.f at h
  by_cases c1 : l0.length = 0 ∨ l0.length > 30
  · rw [if_pos c1] at h
    cases h
    exact rooted_early A0 c0 l0 w c1
  rw [if_neg c1] at h
  by_cases c2 : l0.any (fun x => decide (x < 0 ∨ (l0.length : Int) < x)) = true
  · rw [if_pos c2] at h
    cases h
    exact rooted_bad A0 c0 l0 w hr0 (by omega) (by omega) c2
  · rw [if_neg c2] at h
    cases h
    exact rooted_late A0 c0 l0 w hr0 (by omega) (by omega) (Bool.eq_false_iff.2 c2) _ rfl


end Go.Proofs.Ytfopeenjpdaacaa.PC
