/- Numbers of pairs of arch systems, by the program, for the small sizes. -/
import Derived.Test.YtjfkompfkgjdaaaPCf24
namespace Go.Proofs.Ytjfkompfkgjdaaa.L
open Go.RowKit Go.Proofs.Ytjfkompfkgjdaaa.PC Go.Proofs.YtjfkompfkgjdaaaW.PrintWords Go.Proofs.YtjfkompfkgjdaaaW.PrintLast
def mp_val : Nat → Nat → Int
  | 1, 1 => 1
  | 2, 1 => 2
  | 2, 2 => 2
  | 3, 1 => 8
  | 3, 2 => 12
  | 3, 3 => 5
  | 4, 1 => 42
  | 4, 2 => 84
  | 4, 3 => 56
  | 4, 4 => 14
  | 5, 1 => 262
  | 5, 2 => 640
  | 5, 3 => 580
  | 5, 4 => 240
  | 5, 5 => 42
  | _, _ => 0
set_option maxRecDepth 100000 in
theorem mp_1_1 : plait_Meanders.f 3000 1 1 = some (1, 0) := by decide +kernel
set_option maxRecDepth 100000 in
theorem mp_2_1 : plait_Meanders.f 3000 2 1 = some (2, 0) := by decide +kernel
set_option maxRecDepth 100000 in
theorem mp_2_2 : plait_Meanders.f 3000 2 2 = some (2, 0) := by decide +kernel
set_option maxRecDepth 100000 in
theorem mp_3_1 : plait_Meanders.f 3000 3 1 = some (8, 0) := by decide +kernel
set_option maxRecDepth 100000 in
theorem mp_3_2 : plait_Meanders.f 3000 3 2 = some (12, 0) := by decide +kernel
set_option maxRecDepth 100000 in
theorem mp_3_3 : plait_Meanders.f 3000 3 3 = some (5, 0) := by decide +kernel
set_option maxRecDepth 100000 in
theorem mp_4_1 : plait_Meanders.f 3000 4 1 = some (42, 0) := by decide +kernel
set_option maxRecDepth 100000 in
theorem mp_4_2 : plait_Meanders.f 3000 4 2 = some (84, 0) := by decide +kernel
set_option maxRecDepth 100000 in
theorem mp_4_3 : plait_Meanders.f 3000 4 3 = some (56, 0) := by decide +kernel
set_option maxRecDepth 100000 in
theorem mp_4_4 : plait_Meanders.f 3000 4 4 = some (14, 0) := by decide +kernel
set_option maxRecDepth 100000 in
theorem mp_5_1 : plait_Meanders.f 3000 5 1 = some (262, 0) := by decide +kernel
set_option maxRecDepth 100000 in
theorem mp_5_2 : plait_Meanders.f 3000 5 2 = some (640, 0) := by decide +kernel
set_option maxRecDepth 100000 in
theorem mp_5_3 : plait_Meanders.f 3000 5 3 = some (580, 0) := by decide +kernel
set_option maxRecDepth 100000 in
theorem mp_5_4 : plait_Meanders.f 3000 5 4 = some (240, 0) := by decide +kernel
set_option maxRecDepth 100000 in
theorem mp_5_5 : plait_Meanders.f 3000 5 5 = some (42, 0) := by decide +kernel
theorem mp_all (n k : Nat) (h1 : 1 ≤ n) (h5 : n ≤ 5) (h2 : 1 ≤ k) (h3 : k ≤ n) : plait_Meanders.f 3000 (n : Int) (k : Int) = some (mp_val n k, 0) := by
  match n, k, h1, h5, h2, h3 with
  | 1, 1, _, _, _, _ => exact mp_1_1
  | 2, 1, _, _, _, _ => exact mp_2_1
  | 2, 2, _, _, _, _ => exact mp_2_2
  | 3, 1, _, _, _, _ => exact mp_3_1
  | 3, 2, _, _, _, _ => exact mp_3_2
  | 3, 3, _, _, _, _ => exact mp_3_3
  | 4, 1, _, _, _, _ => exact mp_4_1
  | 4, 2, _, _, _, _ => exact mp_4_2
  | 4, 3, _, _, _, _ => exact mp_4_3
  | 4, 4, _, _, _, _ => exact mp_4_4
  | 5, 1, _, _, _, _ => exact mp_5_1
  | 5, 2, _, _, _, _ => exact mp_5_2
  | 5, 3, _, _, _, _ => exact mp_5_3
  | 5, 4, _, _, _, _ => exact mp_5_4
  | 5, 5, _, _, _, _ => exact mp_5_5
  | n + 6, _, _, h5, _, _ => omega
  | 1, k + 2, _, _, _, h3 => omega
  | 2, k + 3, _, _, _, h3 => omega
  | 3, k + 4, _, _, _, h3 => omega
  | 4, k + 5, _, _, _, h3 => omega
  | 5, k + 6, _, _, _, h3 => omega
theorem mp_bad (n k : Int) (h : ¬ (1 ≤ n ∧ n ≤ 7 ∧ 1 ≤ k ∧ k ≤ n)) : plait_Meanders.f 3000 n k = some (0, 2) := by
  unfold plait_Meanders.f
  have hj : plait_Meanders.j0 (2999 + 1) n k true = some (0, 2) := by simp only [plait_Meanders.j0]; rw [if_pos trivial]
  by_cases c1 : n < 1
  · rw [if_pos c1]; exact hj
  by_cases c2 : n > 7
  · rw [if_neg c1, if_pos c2]; exact hj
  by_cases c3 : k < 1
  · rw [if_neg c1, if_neg c2, if_pos c3]; exact hj
  · rw [if_neg c1, if_neg c2, if_neg c3, decide_eq_true (show k > n by omega)]; exact hj
end Go.Proofs.Ytjfkompfkgjdaaa.L
