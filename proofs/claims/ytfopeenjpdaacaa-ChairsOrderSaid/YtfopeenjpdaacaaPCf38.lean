-- Printed by a program of this session (mkprint.sh, over the kit's print.py), with own proofs for the functions that the print does not take.
import Derived.Test.YtfopeenjpdaacaaPCg2
import Derived.Test.YtfopeenjpdaacaaPCx0
import Derived.Test.YtfopeenjpdaacaaHTree
namespace Go.Proofs.Ytfopeenjpdaacaa.PC
open Go.RowKit Go.Proofs.YtfopeenjpdaacaaW.PrintWords Go.Proofs.YtfopeenjpdaacaaW.PrintLast Go.Proofs.YtfopeenjpdaacaaW.PrintMore
attribute [local go_sem] max2_int min2_int max_two min_two max_three min_three max_four min_four   -- for this text's walks alone
set_option linter.unusedVariables false
set_option linter.unusedSimpArgs false

/-! ### chairs_Tree: function 38 -/
def chairs_Tree.f (k : Nat) (l0 : List Int) : Option (List Int × Int) :=
  (chairs_same.f l0).bind fun e => if e = 0 then ((chairs_sit.f k (l0.length : Int) l0).bind fun s => if s.2 = true then ((chairs_Tree.go l0 (l0.length + 2) 0 (List.replicate l0.length 0) [0]).bind fun out => some (out, 0)) else some ([], 10)) else some ([], e)
theorem chairs_Tree.mono : ∀ a0 k, LeO (chairs_Tree.f k a0) (chairs_Tree.f (k + 1) a0) := fun _ k =>
  LeO.bind (LeO.refl _) (fun _ => LeO.ite (LeO.bind (chairs_sit.mono _ _ k) (fun _ => LeO.refl _)) (LeO.refl _))

theorem chairs_Tree.calls (k : Nat) (A0 : Option Addr) (c0 : Nat) (l0 : List Int) (r1 : List Int) (r2 : Int) (w : World) (hr0 : Kd.C (Kd.int .i64) w A0 l0.length l0) (hc0 : l0.length ≤ c0) (h : chairs_Tree.f k l0 = some (r1, r2)) :
    Calls Try.prog 38 #[.slice A0 l0.length c0] w fun e w' => ∃ v0_ : Value, e = .returned (.tuple #[v0_, .int .i64 r2]) ∧ Kd.R (Kd.int .i64) 3 w' w.heap.size (fun _ => True) v0_ r1 ∧ Below w.heap.size w w' := by
  unfold chairs_Tree.f at h
  obtain ⟨e0, h1, h⟩ := Option.bind_eq_some_iff.1 h
  by_cases he : e0 = 0
  · subst he
    simp only [if_true] at h
    obtain ⟨⟨s1, s2⟩, h2, h⟩ := Option.bind_eq_some_iff.1 h
    have hl : ¬ (l0.length : Int) = 0 ∧ ¬ (l0.length : Int) > 30 := by
      unfold chairs_same.f at h1
      by_cases c1 : (l0.length : Int) = 0
      · rw [if_pos c1] at h1; cases h1
      · rw [if_neg c1] at h1
        by_cases c2 : (l0.length : Int) > 30
        · rw [if_pos c2] at h1; cases h1
        · exact ⟨c1, c2⟩
    cases s2 with
    | true =>
      simp only [if_true] at h
      obtain ⟨res, h3, h⟩ := Option.bind_eq_some_iff.1 h
      have h' := Option.some.inj h
      obtain ⟨rfl, rfl⟩ := Prod.mk.inj h'
      exact tree_walk k A0 c0 l0 w hr0 hc0 h1 s1 h2 (by omega) (by omega) res h3
    | false =>
      rw [if_neg (by simp)] at h
      have h' := Option.some.inj h
      obtain ⟨rfl, rfl⟩ := Prod.mk.inj h'
      exact (tree_err2 k A0 c0 l0 w hr0 hc0 h1 s1 h2).mono fun e w' ⟨a, b⟩ => ⟨_, a, Kd.R_nil _ _ _ _ _, b⟩
  · rw [if_neg he] at h
    have h' := Option.some.inj h
    obtain ⟨rfl, rfl⟩ := Prod.mk.inj h'
    exact (tree_err1 A0 c0 l0 w hr0 hc0 e0 h1 he).mono fun e w' ⟨a, b⟩ => ⟨_, a, Kd.R_nil _ _ _ _ _, b⟩


end Go.Proofs.Ytfopeenjpdaacaa.PC
