-- Printed by a program of this session (mkprint.sh, over the kit's print.py), with own proofs for the functions that the print does not take.
import Derived.Test.YtjfkompfkgjdaaaPCx0
import Derived.Shelf.Abstract
import Derived.Outline
import Derived.Lib.Hide
import Derived.Test.YtjfkompfkgjdaaaHCont
namespace Go.Proofs.Ytjfkompfkgjdaaa.PC
open Go.RowKit Go.Proofs.YtjfkompfkgjdaaaW.PrintWords Go.Proofs.YtjfkompfkgjdaaaW.PrintLast Go.Proofs.YtjfkompfkgjdaaaW.PrintMore
attribute [local go_sem] max2_int min2_int max_two min_two max_three min_three max_four min_four   -- for this text's walks alone
set_option linter.unusedVariables false
set_option linter.unusedSimpArgs false

/-! ### plait_ordered: function 75 -/
/-- the errors of a word of hooks -/
def plait_ordered.f (a0 : Int) (l1 : List Int) : Option (Int) :=
  if a0 < 1 ∨ a0 > 10 then some 2 else if l1.length > 200 then some 3 else some (if l1.any (fun x => decide (x < 0 ∨ a0 - 2 < x)) = true then 2 else 0)

section
theorem ordered_lit (m : Int) (hm : 1 ≤ m ∧ m ≤ 10) (B : Nat) (w : World) (hcell : w.cell? ⟨B, 0, none⟩ = some (.int .i64 m)) :
    Lit 88 (.pointer (some ⟨B, 0, none⟩)) (fun x => decide (x < 0 ∨ m - 2 < x)) w := by
  intro nd x b hb
  have hc : (w.drewN nd).cell? ⟨B, 0, none⟩ = some (.int .i64 m) := hcell
  clear hcell
  replace hb : decide (x < 0 ∨ m - 2 < x) = b := hb
  subst hb
  obtain ⟨hm0, hm1⟩ := hm
  by_cases h1 : x < 0
  · have d1 : decide (x < 0) = true := decide_eq_true h1
    have d2 : decide (x < 0 ∨ m - 2 < x) = true := decide_eq_true (Or.inl h1)
    rw [d2]
    clear d2
    go_enter Try.func88, Try.ntmps88
    go_wp2
    go_ret
    exact ⟨rfl, Drawn0.refl _⟩
  · have d1 : decide (x < 0) = false := decide_eq_false h1
    obtain ⟨b, hb⟩ : ∃ b, decide (m - 2 < x) = b := ⟨_, rfl⟩
    have d2 : decide (x < 0 ∨ m - 2 < x) = b := by rw [← hb]; simp [h1]
    rw [d2]
    go_enter Try.func88, Try.ntmps88
    go_wp2
    go_ret
    exact ⟨rfl, Drawn0.refl _⟩
set_option maxHeartbeats 400000 in
theorem ordered_walk (a0 : Int) (A1 : Option Addr) (c1 : Nat) (l1 : List Int) (w : World) (hr1 : Kd.C (Kd.int .i64) w A1 l1.length l1) (r : Int)
    (hr : (a0 < 1 ∧ r = 2) ∨ (¬ a0 < 1 ∧ a0 > 10 ∧ r = 2) ∨ (¬ a0 < 1 ∧ ¬ a0 > 10 ∧ l1.length > 200 ∧ r = 3) ∨ (¬ a0 < 1 ∧ ¬ a0 > 10 ∧ ¬ l1.length > 200 ∧ ∃ b, l1.any (fun x => decide (x < 0 ∨ a0 - 2 < x)) = b ∧ r = if b = true then 2 else 0)) :
    Calls Try.prog 75 #[.int .i64 a0, .slice A1 l1.length c1] w fun e w' => e = .returned (.int .i64 r) ∧ Below w.heap.size w w' := by
  have HR : Hid (Kd.C (Kd.int .i64) (w.alloc (.cells #[.int .i64 a0] 3)) A1 l1.length l1) := Lib.hid (Kd.C_alloc hr1 _)
  clear hr1
  rcases hr with ⟨g1, rfl⟩ | ⟨g1, g2, rfl⟩ | ⟨g1, g2, g3, rfl⟩ | ⟨g1, g2, g3, b, hb, rfl⟩
  · have d1 : decide (a0 < 1) = true := decide_eq_true g1
    go_enter Try.func75, Try.ntmps75
    go_wp2
    go_ret
    exact ⟨rfl, (Below.refl _ w).alloc (Nat.le_refl _) _⟩
  · have d1 : decide (a0 < 1) = false := decide_eq_false g1
    have d2 : decide (10 < a0) = true := decide_eq_true g2
    go_enter Try.func75, Try.ntmps75
    go_wp2
    go_ret
    exact ⟨rfl, (Below.refl _ w).alloc (Nat.le_refl _) _⟩
  · have d1 : decide (a0 < 1) = false := decide_eq_false g1
    have d2 : decide (10 < a0) = false := decide_eq_false g2
    have d3 : decide ((200 : Int) < (l1.length : Int)) = true := decide_eq_true (by omega)
    go_enter Try.func75, Try.ntmps75
    go_wp2
    go_ret
    exact ⟨rfl, (Below.refl _ w).alloc (Nat.le_refl _) _⟩
  · have d1 : decide (a0 < 1) = false := decide_eq_false g1
    have d2 : decide (10 < a0) = false := decide_eq_false g2
    have d3 : decide ((200 : Int) < (l1.length : Int)) = false := decide_eq_false (by omega)
    have HB := Lib.hid hb
    clear hb
    have HM : Hid (1 ≤ a0 ∧ a0 ≤ 10) := ⟨by omega, by omega⟩
    have hl : l1.length ≤ 1000000 := by omega
    have hcell : ∀ o : Obj, o = .cells #[.int .i64 a0] 3 → (w.alloc o).cell? ⟨w.heap.size, 0, none⟩ = some (.int .i64 a0) := by
      rintro o rfl
      rw [World.cell?_alloc_at _ _ _ _ rfl]; rfl
    have HC := Lib.hid hcell
    clear hcell
    cases b with
    | true =>
      go_enter Try.func75, Try.ntmps75
      go_wp2_with (go_at_call 87; refine (ContainsFunc_walk 88 _ (fun x => decide (x < 0 ∨ a0 - 2 < x)) (Go.Proofs.enters_of Try.func88 (by kernel_rfl) rfl) A1 c1 l1 _ (ordered_lit a0 HM.out w.heap.size _ (HC.out _ rfl)) HR.out hl true HB.out).mono ?_; rintro e w' ⟨rfl, ⟨nd, rfl⟩⟩)
      go_ret
      exact ⟨rfl, pw_below_drewN ((Below.refl _ w).alloc (Nat.le_refl _) _) _⟩
    | false =>
      go_enter Try.func75, Try.ntmps75
      go_wp2_with (go_at_call 87; refine (ContainsFunc_walk 88 _ (fun x => decide (x < 0 ∨ a0 - 2 < x)) (Go.Proofs.enters_of Try.func88 (by kernel_rfl) rfl) A1 c1 l1 _ (ordered_lit a0 HM.out w.heap.size _ (HC.out _ rfl)) HR.out hl false HB.out).mono ?_; rintro e w' ⟨rfl, ⟨nd, rfl⟩⟩)
      go_ret
      exact ⟨rfl, pw_below_drewN ((Below.refl _ w).alloc (Nat.le_refl _) _) _⟩
theorem plait_ordered.calls (a0 : Int) (A1 : Option Addr) (c1 : Nat) (l1 : List Int) (r : Int) (w : World) (hr1 : Kd.C (Kd.int .i64) w A1 l1.length l1) (hc1 : l1.length ≤ c1) (h : plait_ordered.f a0 l1 = some r) :
    Calls Try.prog 75 #[.int .i64 a0, .slice A1 l1.length c1] w fun e w' => e = .returned (.int .i64 r) ∧ Below w.heap.size w w' := by
  unfold plait_ordered.f at h
  refine ordered_walk a0 A1 c1 l1 w hr1 r ?_
  by_cases g1 : a0 < 1
  · rw [if_pos (Or.inl g1)] at h
    exact .inl ⟨g1, (Option.some.inj h).symm⟩
  by_cases g2 : a0 > 10
  · rw [if_pos (Or.inr g2)] at h
    exact .inr (.inl ⟨g1, g2, (Option.some.inj h).symm⟩)
  rw [if_neg (by omega)] at h
  by_cases g3 : l1.length > 200
  · rw [if_pos g3] at h
    exact .inr (.inr (.inl ⟨g1, g2, g3, (Option.some.inj h).symm⟩))
  rw [if_neg g3] at h
  exact .inr (.inr (.inr ⟨g1, g2, g3, _, rfl, (Option.some.inj h).symm⟩))
end


end Go.Proofs.Ytjfkompfkgjdaaa.PC
