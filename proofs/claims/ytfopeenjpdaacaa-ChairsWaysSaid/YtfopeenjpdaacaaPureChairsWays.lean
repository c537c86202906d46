/- Chairs: ChairsWays: for n up to 6, by the kernel. -/
import Derived.Test.YtfopeenjpdaacaaLSit
import Derived.Test.YtfopeenjpdaacaaPCf6
namespace Go.Proofs.Ytfopeenjpdaacaa.L
open Go.RowKit Go.Proofs.Ytfopeenjpdaacaa.PC Go.Proofs.YtfopeenjpdaacaaW.PrintWords Go.Proofs.YtfopeenjpdaacaaW.PrintLast
set_option maxRecDepth 100000
theorem ways1 : pomadelaw03_ChairsWays.l0 20 1 [] 0 = some true := by decide +kernel
theorem ways2 : pomadelaw03_ChairsWays.l0 20 2 [] 0 = some true := by decide +kernel
theorem ways3 : pomadelaw03_ChairsWays.l0 30 3 [] 0 = some true := by decide +kernel
theorem ways4 : pomadelaw03_ChairsWays.l0 50 4 [] 0 = some true := by decide +kernel
theorem ways5 : pomadelaw03_ChairsWays.l0 150 5 [] 0 = some true := by decide +kernel
theorem ways6 : pomadelaw03_ChairsWays.l0 750 6 [] 0 = some true := by decide +kernel
theorem ChairsWays_pure : pomadelaw03_ChairsWays.Pure := by
  intro a0 wf
  have b : 0 ≤ a0 ∧ a0 ≤ 255 := by
    simp [Lit.wf, IntKind.bits, IntKind.signed, IntKind.min, IntKind.max] at wf
    omega
  have e : wrap64 (1 + (wrap64 (Int.tmod a0 6))) = 1 + a0 % 6 := by
    rw [Int.tmod_eq_emod_of_nonneg b.1, w64 (x := a0 % 6) (by omega) (by omega), w64 (by omega) (by omega)]
  have h6 : a0 % 6 = 0 ∨ a0 % 6 = 1 ∨ a0 % 6 = 2 ∨ a0 % 6 = 3 ∨ a0 % 6 = 4 ∨ a0 % 6 = 5 := by omega
  unfold pomadelaw03_ChairsWays.f
  rw [e]
  rcases h6 with h | h | h | h | h | h <;> rw [h]
  · exact ⟨_, ways1⟩
  · exact ⟨_, ways2⟩
  · exact ⟨_, ways3⟩
  · exact ⟨_, ways4⟩
  · exact ⟨_, ways5⟩
  · exact ⟨_, ways6⟩
end Go.Proofs.Ytfopeenjpdaacaa.L
namespace Go.Proofs.Ytfopeenjpdaacaa.Pure
theorem ChairsWays : Go.Proofs.Ytfopeenjpdaacaa.PC.pomadelaw03_ChairsWays.Pure := Go.Proofs.Ytfopeenjpdaacaa.L.ChairsWays_pure
end Go.Proofs.Ytfopeenjpdaacaa.Pure
