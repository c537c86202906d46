/- Plait: PlaitRelations: all sizes and all pairs of hooks, reckoned by the kernel. -/
import Derived.Test.YtjfkompfkgjdaaaPCf15
namespace Go.Proofs.Ytjfkompfkgjdaaa.L
open Go.RowKit Go.Proofs.Ytjfkompfkgjdaaa.PC Go.Proofs.YtjfkompfkgjdaaaW.PrintWords Go.Proofs.YtjfkompfkgjdaaaW.PrintLast
/-- the statement at a size and two numbers of hooks -/
def relG (k : Nat) (n i j : Int) : Option Bool :=
  (pomadelaw07_hooks.f k n [i]).bind fun a => (pomadelaw07_hooks.f k n [i, i]).bind fun b => if a.2 = 0 then (if b.2 = 1 then ((pomadelaw07_same.f k a.1 b.1).bind fun t => if t = true then ((pomaderef07_Hook.f k n i).bind fun h => (pomadelaw07_same.f k a.1 h).bind fun s => pomadelaw07_PlaitRelations.j0 k n i j a.1 (!s)) else pomadelaw07_PlaitRelations.j0 k n i j a.1 true) else pomadelaw07_PlaitRelations.j0 k n i j a.1 true) else pomadelaw07_PlaitRelations.j0 k n i j a.1 true
set_option maxRecDepth 100000 in
theorem rel_0 : ∀ i : Nat, i < 1 → ∀ j : Nat, j < 1 → relG 400 2 (i : Int) (j : Int) = some true := by decide +kernel
set_option maxRecDepth 100000 in
theorem rel_1 : ∀ i : Nat, i < 2 → ∀ j : Nat, j < 2 → relG 400 3 (i : Int) (j : Int) = some true := by decide +kernel
set_option maxRecDepth 100000 in
theorem rel_2 : ∀ i : Nat, i < 3 → ∀ j : Nat, j < 3 → relG 400 4 (i : Int) (j : Int) = some true := by decide +kernel
set_option maxRecDepth 100000 in
theorem rel_3 : ∀ i : Nat, i < 4 → ∀ j : Nat, j < 4 → relG 400 5 (i : Int) (j : Int) = some true := by decide +kernel
set_option maxRecDepth 100000 in
theorem rel_4 : ∀ i : Nat, i < 5 → ∀ j : Nat, j < 5 → relG 400 6 (i : Int) (j : Int) = some true := by decide +kernel
set_option maxRecDepth 100000 in
theorem rel_5 : ∀ i : Nat, i < 6 → ∀ j : Nat, j < 6 → relG 400 7 (i : Int) (j : Int) = some true := by decide +kernel
set_option maxRecDepth 100000 in
theorem rel_6 : ∀ i : Nat, i < 7 → ∀ j : Nat, j < 7 → relG 400 8 (i : Int) (j : Int) = some true := by decide +kernel
set_option maxRecDepth 100000 in
theorem rel_7 : ∀ i : Nat, i < 8 → ∀ j : Nat, j < 8 → relG 400 9 (i : Int) (j : Int) = some true := by decide +kernel
set_option maxRecDepth 100000 in
theorem rel_8 : ∀ i : Nat, i < 9 → ∀ j : Nat, j < 9 → relG 400 10 (i : Int) (j : Int) = some true := by decide +kernel
theorem rel_all (m i j : Nat) (hm : m < 9) (hi : i < m + 1) (hj : j < m + 1) : relG 400 ((m : Int) + 2) (i : Int) (j : Int) = some true := by
  match m, hm with
  | 0, _ => exact rel_0 i hi j hj
  | 1, _ => exact rel_1 i hi j hj
  | 2, _ => exact rel_2 i hi j hj
  | 3, _ => exact rel_3 i hi j hj
  | 4, _ => exact rel_4 i hi j hj
  | 5, _ => exact rel_5 i hi j hj
  | 6, _ => exact rel_6 i hi j hj
  | 7, _ => exact rel_7 i hi j hj
  | 8, _ => exact rel_8 i hi j hj
theorem u8_rng {a : Int} (h : (Lit.int .u8 a).wf = true) : 0 ≤ a ∧ a ≤ 255 := by
  simp [Lit.wf, IntKind.bits, IntKind.signed, IntKind.min, IntKind.max] at h
  omega
theorem w64 {x : Int} (h0 : -9223372036854775808 ≤ x) (h1 : x ≤ 9223372036854775807) : wrap64 x = x := by unfold wrap64; omega
theorem PlaitRelations_pure : pomadelaw07_PlaitRelations.Pure := by
  intro a0 a1 a2 w0 w1 w2
  have b0 := u8_rng w0
  have b1 := u8_rng w1
  have b2 := u8_rng w2
  refine ⟨400, ?_⟩
  have e0 : wrap64 (2 + wrap64 (Int.tmod a0 9)) = a0 % 9 + 2 := by
    rw [Int.tmod_eq_emod_of_nonneg b0.1, w64 (x := a0 % 9) (by omega) (by omega), w64 (by omega) (by omega)]; omega
  obtain ⟨m, hm⟩ : ∃ m : Nat, a0 % 9 = (m : Int) := ⟨(a0 % 9).toNat, by omega⟩
  have hm9 : m < 9 := by omega
  rw [hm] at e0
  have e1 : wrap64 ((m : Int) + 2 - 1) = (m : Int) + 1 := by rw [w64 (by omega) (by omega)]; omega
  have t1 : Int.tmod (wrap64 a1) ((m : Int) + 1) = a1 % ((m : Int) + 1) := by rw [w64 (x := a1) (by omega) (by omega)]; exact Int.tmod_eq_emod_of_nonneg b1.1
  have t2 : Int.tmod (wrap64 a2) ((m : Int) + 1) = a2 % ((m : Int) + 1) := by rw [w64 (x := a2) (by omega) (by omega)]; exact Int.tmod_eq_emod_of_nonneg b2.1
  have g1 : 0 ≤ a1 % ((m : Int) + 1) := Int.emod_nonneg _ (by omega)
  have g2 : a1 % ((m : Int) + 1) < (m : Int) + 1 := Int.emod_lt_of_pos _ (by omega)
  have g3 : 0 ≤ a2 % ((m : Int) + 1) := Int.emod_nonneg _ (by omega)
  have g4 : a2 % ((m : Int) + 1) < (m : Int) + 1 := Int.emod_lt_of_pos _ (by omega)
  obtain ⟨i, hi⟩ : ∃ i : Nat, a1 % ((m : Int) + 1) = (i : Int) := ⟨(a1 % ((m : Int) + 1)).toNat, (Int.toNat_of_nonneg g1).symm⟩
  obtain ⟨j, hj⟩ : ∃ j : Nat, a2 % ((m : Int) + 1) = (j : Int) := ⟨(a2 % ((m : Int) + 1)).toNat, (Int.toNat_of_nonneg g3).symm⟩
  have h := rel_all m i j hm9 (by omega) (by omega)
  unfold pomadelaw07_PlaitRelations.f
  rw [e0, e1, t1, t2, hi, hj, if_neg (by omega)]
  exact h
end Go.Proofs.Ytjfkompfkgjdaaa.L
namespace Go.Proofs.Ytjfkompfkgjdaaa.Pure
theorem PlaitRelations : Go.Proofs.Ytjfkompfkgjdaaa.PC.pomadelaw07_PlaitRelations.Pure := Go.Proofs.Ytjfkompfkgjdaaa.L.PlaitRelations_pure
end Go.Proofs.Ytjfkompfkgjdaaa.Pure
