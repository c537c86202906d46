-- Printed by a program of this session (mkprint.sh, over the kit's print.py), with own proofs for the functions that the print does not take.
import Derived.Test.YtfopeenjpdaacaaPCf62
import Derived.Test.YtfopeenjpdaacaaPCx0
import Derived.Test.YtfopeenjpdaacaaHWish
namespace Go.Proofs.Ytfopeenjpdaacaa.PC
open Go.RowKit Go.Proofs.YtfopeenjpdaacaaW.PrintWords Go.Proofs.YtfopeenjpdaacaaW.PrintLast Go.Proofs.YtfopeenjpdaacaaW.PrintMore
attribute [local go_sem] max2_int min2_int max_two min_two max_three min_three max_four min_four   -- for this text's walks alone
set_option linter.unusedVariables false
set_option linter.unusedSimpArgs false

/-! ### chairs_Wishes: function 39 -/
def chairs_Wishes.f (_k : Nat) (l0 : List Int) : Option (List Int × Int) :=
  (chairs_rooted.f l0).bind fun e => if e = 0 then ((chairs_Wishes.go l0 (l0.length + 2) 0 (List.replicate l0.length 0) [0]).bind fun out => some (out, 0)) else some ([], e)
theorem chairs_Wishes.mono : ∀ a0 k, LeO (chairs_Wishes.f k a0) (chairs_Wishes.f (k + 1) a0) := fun _ _ => LeO.refl _

theorem chairs_Wishes.calls (k : Nat) (A0 : Option Addr) (c0 : Nat) (l0 : List Int) (r1 : List Int) (r2 : Int) (w : World) (hr0 : Kd.C (Kd.int .i64) w A0 l0.length l0) (hc0 : l0.length ≤ c0) (h : chairs_Wishes.f k l0 = some (r1, r2)) :
    Calls Try.prog 39 #[.slice A0 l0.length c0] w fun e w' => ∃ v0_ : Value, e = .returned (.tuple #[v0_, .int .i64 r2]) ∧ Kd.R (Kd.int .i64) 3 w' w.heap.size (fun _ => True) v0_ r1 ∧ Below w.heap.size w w' := by
  unfold chairs_Wishes.f at h
  obtain ⟨e0, h1, h⟩ := Option.bind_eq_some_iff.1 h
  by_cases he : e0 = 0
  · subst he
    simp only [if_true] at h
    have hl : ¬ (l0.length = 0 ∨ l0.length > 30) := by
      intro c
      unfold chairs_rooted.f at h1
      rw [if_pos c] at h1
      cases h1
    obtain ⟨res, h3, h⟩ := Option.bind_eq_some_iff.1 h
    have h' := Option.some.inj h
    obtain ⟨rfl, rfl⟩ := Prod.mk.inj h'
    exact wishes_walk A0 c0 l0 w hr0 hc0 h1 (by omega) (by omega) res h3
  · rw [if_neg he] at h
    have h' := Option.some.inj h
    obtain ⟨rfl, rfl⟩ := Prod.mk.inj h'
    exact (wishes_err A0 c0 l0 w hr0 hc0 e0 h1 he).mono fun e w' ⟨a, b⟩ => ⟨_, a, Kd.R_nil _ _ _ _ _, b⟩


end Go.Proofs.Ytfopeenjpdaacaa.PC
