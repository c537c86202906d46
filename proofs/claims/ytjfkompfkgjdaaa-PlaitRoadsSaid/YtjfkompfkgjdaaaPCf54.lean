-- Printed by a program of this session (mkprint.sh, over the kit's print.py), with own proofs for the functions that the print does not take.
import Derived.Test.YtjfkompfkgjdaaaPCf70
import Derived.Test.YtjfkompfkgjdaaaPCf71
import Derived.Test.YtjfkompfkgjdaaaPCx0
import Derived.Lib.Hide
namespace Go.Proofs.Ytjfkompfkgjdaaa.PC
open Go.RowKit Go.Proofs.YtjfkompfkgjdaaaW.PrintWords Go.Proofs.YtjfkompfkgjdaaaW.PrintLast Go.Proofs.YtjfkompfkgjdaaaW.PrintMore
attribute [local go_sem] max2_int min2_int max_two min_two max_three min_three max_four min_four   -- for this text's walks alone
set_option linter.unusedVariables false
set_option linter.unusedSimpArgs false

/-! ### plait_of: function 54 -/
/-- the errors of a diagram, by the program -/
def plait_of.f (k : Nat) (l0 : List Int) : Option (Int) := if (l0.length : Int) > 20 then (some 3) else ((plait_diagram_arches.f k l0).bind fun bt => (if bt.2 = true then (some 0) else (some 2)))
/-- the diagram that is handed back: the very list, where there is no error -/
def plait_of.val (r : Int) (s : Value) : Value := if r = 0 then s else .slice none 0 0
theorem plait_of.val0 (r : Int) (s : Value) (h : (r == 0) = true) : plait_of.val r s = s := by unfold plait_of.val; rw [if_pos (by simpa using h)]
theorem plait_of.mono : ∀ a0 k, LeO (plait_of.f k a0) (plait_of.f (k + 1) a0) := fun _ k =>
  LeO.ite (LeO.refl _) (LeO.bind (plait_diagram_arches.mono _ k) (fun _ => LeO.refl _))

set_option maxHeartbeats 1000000 in
theorem plait_of.calls (k : Nat) (A0 : Option Addr) (c0 : Nat) (l0 : List Int) (r : Int) (w : World) (hr0 : Kd.C (Kd.int .i64) w A0 l0.length l0) (hc0 : l0.length ≤ c0) (h : plait_of.f k l0 = some r) :
    Calls Try.prog 54 #[.slice A0 l0.length c0] w fun e w' => e = .returned (.tuple #[plait_of.val r (.slice A0 l0.length c0), .int .i64 r]) ∧ Below w.heap.size w w' := by
  have HR := Lib.hid hr0
  have HC := Lib.hid hc0
  unfold plait_of.f at h
  obtain ⟨n, hn⟩ : ∃ n, l0.length = n := ⟨_, rfl⟩
  have hcall := plait_diagram_arches.calls k A0 c0 l0
  rw [hn] at hcall h ⊢
  by_cases c1 : (n : Int) > 20
  · rw [if_pos c1] at h
    have d1 : decide ((20 : Int) < (n : Int)) = true := decide_eq_true (by omega)
    have h2 := Option.some.inj h
    subst h2
    clear hr0 hc0 h hn hcall HR HC
    go_enter Try.func54, Try.ntmps54
    go_wp2
    go_ret2
    exact ⟨rfl, Below.refl _ _⟩
  · rw [if_neg c1] at h
    have d1 : decide ((20 : Int) < (n : Int)) = false := decide_eq_false (by omega)
    obtain ⟨⟨s, ok⟩, h1, h⟩ := Option.bind_eq_some_iff.1 h
    have hca := fun w hR hC => hcall s ok w hR hC h1
    rw [hn] at hr0 hc0
    have HR := Lib.hid hr0
    have HC := Lib.hid hc0
    have HCA := Lib.hid hca
    cases ok with
    | true =>
      have h2 := Option.some.inj h
      subst h2
      clear hr0 hc0 h hn hcall h1 hca c1
      go_enter Try.func54, Try.ntmps54
      go_wp2_with (go_at_call 71; refine (HCA.out _ HR.out HC.out).mono ?_; rintro e wa ⟨rfl, hba⟩; have HBA := Lib.hid hba; clear hba)
      go_ret2
      exact ⟨rfl, HBA.out⟩
    | false =>
      have h2 := Option.some.inj h
      subst h2
      clear hr0 hc0 h hn hcall h1 hca c1
      go_enter Try.func54, Try.ntmps54
      go_wp2_with (go_at_call 71; refine (HCA.out _ HR.out HC.out).mono ?_; rintro e wa ⟨rfl, hba⟩; have HBA := Lib.hid hba; clear hba)
      go_ret2
      exact ⟨rfl, HBA.out⟩


end Go.Proofs.Ytjfkompfkgjdaaa.PC
