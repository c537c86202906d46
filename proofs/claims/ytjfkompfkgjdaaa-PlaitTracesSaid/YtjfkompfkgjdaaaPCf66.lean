-- Printed by a program of this session (mkprint.sh, over the kit's print.py), with own proofs for the functions that the print does not take.
import Derived.Test.YtjfkompfkgjdaaaPCx0
import Derived.Test.YtjfkompfkgjdaaaHProd
namespace Go.Proofs.Ytjfkompfkgjdaaa.PC
open Go.RowKit Go.Proofs.YtjfkompfkgjdaaaW.PrintWords Go.Proofs.YtjfkompfkgjdaaaW.PrintLast Go.Proofs.YtjfkompfkgjdaaaW.PrintMore
attribute [local go_sem] max2_int min2_int max_two min_two max_three min_three max_four min_four   -- for this text's walks alone
set_option linter.unusedVariables false
set_option linter.unusedSimpArgs false

/-! ### plait_diagram_product: function 66 -/
def plait_diagram_product.f (l0 : List Int) (l1 : List Int) : Option (List Int × Int) :=
  if l0.length = l1.length ∧ l0.length = 2 * (l0.length / 2) ∧ l0.length ≤ 1000 then
    (plait_ways l0 l1 (l0.length / 2) (l0.length / 2) 0 (List.replicate l0.length 0) (List.replicate (l0.length / 2) false)).bind fun r =>
      (plait_loops l0 l1 (l0.length / 2) (l0.length / 2) 0 0 r.2).bind fun many => some (r.1, (many : Int))
  else none

theorem plait_diagram_product.calls (A0 : Option Addr) (c0 : Nat) (l0 : List Int) (A1 : Option Addr) (c1 : Nat) (l1 : List Int) (r1 : List Int) (r2 : Int) (w : World) (hr0 : Kd.C (Kd.int .i64) w A0 l0.length l0) (hc0 : l0.length ≤ c0) (hr1 : Kd.C (Kd.int .i64) w A1 l1.length l1) (hc1 : l1.length ≤ c1) (h : plait_diagram_product.f l0 l1 = some (r1, r2)) :
    Calls Try.prog 66 #[.slice A0 l0.length c0, .slice A1 l1.length c1] w fun e w' => ∃ v0_ : Value, e = .returned (.tuple #[v0_, .int .i64 r2]) ∧ Kd.R (Kd.int .i64) 3 w' w.heap.size (fun _ => True) v0_ r1 ∧ Below w.heap.size w w' := by
  unfold plait_diagram_product.f at h
  by_cases c : l0.length = l1.length ∧ l0.length = 2 * (l0.length / 2) ∧ l0.length ≤ 1000
  · rw [if_pos c] at h
    obtain ⟨c1_, c2_, c3_⟩ := c
    obtain ⟨⟨out, T⟩, ha, h⟩ := Option.bind_eq_some_iff.1 h
    obtain ⟨many, hb, h⟩ := Option.bind_eq_some_iff.1 h
    have h := Option.some.inj h
    obtain ⟨rfl, rfl⟩ := Prod.mk.inj h
    rw [← c1_] at hr1 ⊢
    refine (product_walk A0 c0 l0 A1 c1 l1 (l0.length / 2) l0.length w hr0 hr1 rfl c1_.symm c2_ (by omega) out T many ha hb).mono ?_
    rintro e w' ⟨rfl, T', hP⟩
    have hl := hP.flen
    have hR := R_of_ints (base := w.heap.size) hP.fout (by omega) (by omega)
    rw [hl] at hR
    exact ⟨_, rfl, hR, hP.below⟩
  · rw [if_neg c] at h
    cases h


end Go.Proofs.Ytjfkompfkgjdaaa.PC
