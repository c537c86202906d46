-- Printed by a program of this session (mkprint.sh, over the kit's print.py), with own proofs for the functions that the print does not take.
import Derived.Test.YtjfkompfkgjdaaaPCg2
import Derived.Test.YtjfkompfkgjdaaaPCx0
import Derived.Test.YtjfkompfkgjdaaaHWord
namespace Go.Proofs.Ytjfkompfkgjdaaa.PC
open Go.RowKit Go.Proofs.YtjfkompfkgjdaaaW.PrintWords Go.Proofs.YtjfkompfkgjdaaaW.PrintLast Go.Proofs.YtjfkompfkgjdaaaW.PrintMore
attribute [local go_sem] max2_int min2_int max_two min_two max_three min_three max_four min_four   -- for this text's walks alone
set_option linter.unusedVariables false
set_option linter.unusedSimpArgs false

/-! ### plait_diagram_word: function 55 -/
/-- the first shortest word, by the program -/
def plait_diagram_word.f (k : Nat) (l0 : List Int) : Option (List Int) := plait_wordGo k 1000 l0 []
theorem plait_diagram_word.mono : ∀ a0 k, LeO (plait_diagram_word.f k a0) (plait_diagram_word.f (k + 1) a0) := fun _ k => plait_wordGo_mono k _ _ _

theorem plait_diagram_word.calls (k : Nat) (A0 : Option Addr) (c0 : Nat) (l0 : List Int) (r : List Int) (w : World) (hr0 : Kd.C (Kd.int .i64) w A0 l0.length l0) (hc0 : l0.length ≤ c0) (h : plait_diagram_word.f k l0 = some r) :
    Calls Try.prog 55 #[.slice A0 l0.length c0] w fun e w' => ∃ v0_ : Value, e = .returned (v0_) ∧ Kd.R (Kd.int .i64) 3 w' w.heap.size (fun _ => True) v0_ r ∧ Below w.heap.size w w' := word_walk k A0 c0 l0 w hr0 hc0 r h


end Go.Proofs.Ytjfkompfkgjdaaa.PC
