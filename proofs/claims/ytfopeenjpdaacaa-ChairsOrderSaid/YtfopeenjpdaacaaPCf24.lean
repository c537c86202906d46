-- Printed by a program of this session (mkprint.sh, over the kit's print.py), with own proofs for the functions that the print does not take.
import Derived.Test.YtfopeenjpdaacaaPCx0
import Derived.Test.YtfopeenjpdaacaaHSpread
namespace Go.Proofs.Ytfopeenjpdaacaa.PC
open Go.RowKit Go.Proofs.YtfopeenjpdaacaaW.PrintWords Go.Proofs.YtfopeenjpdaacaaW.PrintLast Go.Proofs.YtfopeenjpdaacaaW.PrintMore
attribute [local go_sem] max2_int min2_int max_two min_two max_three min_three max_four min_four   -- for this text's walks alone
set_option linter.unusedVariables false
set_option linter.unusedSimpArgs false

/-! ### chairs_Spread: function 24 -/
/-- how many good lists there are for each distance -/
def chairs_Spread.f (a0 : Int) : Option (List Int × Int) :=
  if a0 < 1 ∨ a0 > 10 then some ([], 2) else some (rowI a0.toNat, 0)

section
theorem spread_err (a0 : Int) (w : World) (h : a0 < 1 ∨ a0 > 10) :
    Calls Try.prog 24 #[.int .i64 a0] w fun e w' => e = .returned (.tuple #[.slice none 0 0, .int .i64 2]) ∧ Below w.heap.size w w' := by
  by_cases h1 : a0 < 1
  · have d1 : decide (a0 < 1) = true := decide_eq_true h1
    go_enter Try.func24, Try.ntmps24
    go_wp2
    go_ret2
    exact ⟨rfl, Below.refl _ _⟩
  · have d1 : decide (a0 < 1) = false := decide_eq_false h1
    have d2 : decide (10 < a0) = true := decide_eq_true (by omega)
    go_enter Try.func24, Try.ntmps24
    go_wp2
    go_ret2
    exact ⟨rfl, Below.refl _ _⟩
theorem chairs_Spread.calls (a0 : Int) (r1 : List Int) (r2 : Int) (w : World) (h : chairs_Spread.f a0 = some (r1, r2)) :
    Calls Try.prog 24 #[.int .i64 a0] w fun e w' => ∃ v0_ : Value, e = .returned (.tuple #[v0_, .int .i64 r2]) ∧ Kd.R (Kd.int .i64) 3 w' w.heap.size (fun _ => True) v0_ r1 ∧ Below w.heap.size w w' := by
  unfold chairs_Spread.f at h
  by_cases c : a0 < 1 ∨ a0 > 10
  · rw [if_pos c] at h
    have h' := Option.some.inj h
    obtain ⟨rfl, rfl⟩ := Prod.mk.inj h'
    exact (spread_err a0 w c).mono fun e w' ⟨he, hb⟩ => ⟨_, he, Kd.R_nil _ _ _ _ _, hb⟩
  · rw [if_neg c] at h
    have h' := Option.some.inj h
    obtain ⟨rfl, rfl⟩ := Prod.mk.inj h'
    obtain ⟨n, rfl⟩ : ∃ n : Nat, a0 = (n : Int) := ⟨a0.toNat, by omega⟩
    rw [Int.toNat_natCast]
    exact spread_walk n (by omega) (by omega) w
end


end Go.Proofs.Ytfopeenjpdaacaa.PC
