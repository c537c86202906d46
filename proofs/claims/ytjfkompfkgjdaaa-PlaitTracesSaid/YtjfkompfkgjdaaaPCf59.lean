-- Printed by a program of this session (mkprint.sh, over the kit's print.py), with own proofs for the functions that the print does not take.
import Derived.Test.YtjfkompfkgjdaaaPCx0
import Derived.Test.YtjfkompfkgjdaaaHRep
namespace Go.Proofs.Ytjfkompfkgjdaaa.PC
open Go.RowKit Go.Proofs.YtjfkompfkgjdaaaW.PrintWords Go.Proofs.YtjfkompfkgjdaaaW.PrintLast Go.Proofs.YtjfkompfkgjdaaaW.PrintMore
attribute [local go_sem] max2_int min2_int max_two min_two max_three min_three max_four min_four   -- for this text's walks alone
set_option linter.unusedVariables false
set_option linter.unusedSimpArgs false

/-! ### strings_Repeat: function 59 -/
/-- so many copies -/
def strings_Repeat.f (a0 : ByteArray) (a1 : Int) : Option (ByteArray) := if 0 ≤ a1 ∧ a1 ≤ 1000000 ∧ a0.size ≤ 100 then some ⟨(Lib.repeatL a0.data.toList a1.toNat).toArray⟩ else none

theorem strings_Repeat.calls (a0 : ByteArray) (a1 : Int) (r : ByteArray) (w : World) (h : strings_Repeat.f a0 a1 = some r) :
    Calls Try.prog 59 #[.string a0, .int .i64 a1] w fun e w' => e = .returned (.string r) ∧ Below w.heap.size w w' := by
  unfold strings_Repeat.f at h
  by_cases c : 0 ≤ a1 ∧ a1 ≤ 1000000 ∧ a0.size ≤ 100
  · rw [if_pos c] at h
    have h := Option.some.inj h
    subst h
    obtain ⟨c1_, c2_, c3_⟩ := c
    obtain ⟨n, rfl⟩ := Int.eq_ofNat_of_zero_le c1_
    exact repeat_any a0 n w (by omega) (Nat.le_trans (Nat.mul_le_mul c3_ (by omega : n ≤ 1000000)) (by omega))
  · rw [if_neg c] at h
    cases h


end Go.Proofs.Ytjfkompfkgjdaaa.PC
