/- Plait: PlaitSums: all five sizes, reckoned by the kernel. -/
import Derived.Test.YtjfkompfkgjdaaaPCf9
namespace Go.Proofs.Ytjfkompfkgjdaaa.L
open Go.RowKit Go.Proofs.Ytjfkompfkgjdaaa.PC Go.Proofs.YtjfkompfkgjdaaaW.PrintWords Go.Proofs.YtjfkompfkgjdaaaW.PrintLast
def sumG (k : Nat) (n : Int) : Option Bool := pomadelaw07_PlaitSums.l0 k n (rd [1, 1, 2, 5, 14, 42] n) 0 1
set_option maxRecDepth 100000 in
theorem sum_1 : sumG 3100 1 = some true := by decide +kernel
set_option maxRecDepth 100000 in
theorem sum_2 : sumG 3100 2 = some true := by decide +kernel
set_option maxRecDepth 100000 in
theorem sum_3 : sumG 3100 3 = some true := by decide +kernel
set_option maxRecDepth 100000 in
theorem sum_4 : sumG 3100 4 = some true := by decide +kernel
set_option maxRecDepth 100000 in
theorem sum_5 : sumG 3100 5 = some true := by decide +kernel
theorem su8_rng {a : Int} (h : (Lit.int .u8 a).wf = true) : 0 ≤ a ∧ a ≤ 255 := by
  simp [Lit.wf, IntKind.bits, IntKind.signed, IntKind.min, IntKind.max] at h
  omega
theorem sw64 {x : Int} (h0 : -9223372036854775808 ≤ x) (h1 : x ≤ 9223372036854775807) : wrap64 x = x := by unfold wrap64; omega
theorem PlaitSums_pure : pomadelaw07_PlaitSums.Pure := by
  intro a0 w0
  have b0 := su8_rng w0
  refine ⟨3100, ?_⟩
  have e0 : wrap64 (1 + wrap64 (Int.tmod a0 5)) = a0 % 5 + 1 := by
    rw [Int.tmod_eq_emod_of_nonneg b0.1, sw64 (x := a0 % 5) (by omega) (by omega), sw64 (by omega) (by omega)]; omega
  obtain ⟨n, hn⟩ : ∃ n : Int, a0 % 5 + 1 = n := ⟨_, rfl⟩
  rw [hn] at e0
  have h1 : 1 ≤ n ∧ n ≤ 5 := by omega
  have h2 : sumG 3100 n = some true := by
    rcases (show n = 1 ∨ n = 2 ∨ n = 3 ∨ n = 4 ∨ n = 5 by omega) with rfl | rfl | rfl | rfl | rfl
    · exact sum_1
    · exact sum_2
    · exact sum_3
    · exact sum_4
    · exact sum_5
  unfold pomadelaw07_PlaitSums.f
  rw [Option.bind_some, e0, if_pos (by omega), if_pos (by simp; omega)]
  exact h2
end Go.Proofs.Ytjfkompfkgjdaaa.L
namespace Go.Proofs.Ytjfkompfkgjdaaa.Pure
theorem PlaitSums : Go.Proofs.Ytjfkompfkgjdaaa.PC.pomadelaw07_PlaitSums.Pure := Go.Proofs.Ytjfkompfkgjdaaa.L.PlaitSums_pure
end Go.Proofs.Ytjfkompfkgjdaaa.Pure
