/- Parts of the proof of LawChairsKreweras, one behind the other: PureChairsKreweras. -/
import Derived.Test.YtfopeenjpdaacaaJChairsKreweras3
section
/- Chairs: ChairsKreweras: for n up to 5, by the kernel (n = 5 in pieces). -/
namespace Go.Proofs.Ytfopeenjpdaacaa.L
open Go.RowKit Go.Proofs.Ytfopeenjpdaacaa.PC Go.Proofs.YtfopeenjpdaacaaW.PrintWords Go.Proofs.YtfopeenjpdaacaaW.PrintLast
set_option maxRecDepth 100000
theorem krew1 : pomadelaw03_ChairsKreweras.f 200 0 = some true := by decide +kernel
theorem krew2 : pomadelaw03_ChairsKreweras.f 200 1 = some true := by decide +kernel
theorem krew3 : pomadelaw03_ChairsKreweras.f 200 2 = some true := by decide +kernel
theorem krew4 : pomadelaw03_ChairsKreweras.f 500 3 = some true := by decide +kernel
/-- the inversions of the trees of c ranks from i on, counted -/
def krun : Nat → List Int → Nat → Option (List Int)
  | 0, x8, _ => some x8
  | c + 1, x8, i => match chairs_At.f 400 5 (i : Int) with
    | some (w, 0) => match chairs_Tree.f 100 w with
      | some (t, 0) => match chairs_Inversions.f 100 t with
        | some (d, 0) => if 0 ≤ d ∧ d < (x8.length : Int) ∧ rd x8 d < 2000 ∧ 0 ≤ rd x8 d then krun c (x8.set d.toNat (rd x8 d + 1)) (i + 1) else none
        | _ => none
      | _ => none
    | _ => none
theorem krun_ev (S : List Int) (r : Bool) : ∀ c x8 i y, i + c ≤ 1296 → krun c x8 i = some y → Ev (fun k => pomadelaw03_ChairsKreweras.l0 k 5 S 1296 y ((i + c : Nat) : Int)) r → Ev (fun k => pomadelaw03_ChairsKreweras.l0 k 5 S 1296 x8 (i : Int)) r := by
  intro c
  induction c with
  | zero =>
    intro x8 i y _ h hE
    simp only [krun] at h
    obtain rfl := Option.some.inj h
    exact hE
  | succ c ih =>
    intro x8 i y hi h hE
    simp only [krun] at h
    split at h
    case h_2 => cases h
    case h_1 w h1 =>
    split at h
    case h_2 => cases h
    case h_1 t h2 =>
    split at h
    case h_2 => cases h
    case h_1 d h3 =>
    split at h
    case isFalse => cases h
    case isTrue hd =>
    have hE' := ih _ _ _ (by omega) h (by rw [show i + 1 + c = i + (c + 1) by omega]; exact hE)
    refine Ev.step (f := fun k => (chairs_At.f k 5 (i : Int)).bind fun bt691 => ((chairs_Tree.f k bt691.1).bind fun bt695 => ((chairs_Inversions.f k bt695.1).bind fun bt699 => (if bt691.2 = 0 then (if bt695.2 = 0 then (if bt699.2 = 0 then (if bt699.1 < 0 then (some false) else (if bt699.1 ≥ (x8.length : Int) then (some false) else (if 0 ≤ bt699.1 then (if bt699.1 < (x8.length : Int) then (pomadelaw03_ChairsKreweras.l0 k 5 S 1296 (x8.set (bt699.1 : Int).toNat (wrap64 ((rd x8 bt699.1) + 1))) (wrap64 ((i : Int) + 1))) else (none)) else (none)))) else (some false)) else (some false)) else (some false))))) (fun k => ?_) ?_
    · simp only [pomadelaw03_ChairsKreweras.l0]
      rw [if_pos (by omega)]
    · refine Ev.bind (Ev.of (chairs_At.mono _ _) h1) (Ev.bind (Ev.of (chairs_Tree.mono _) h2) (Ev.bind (Ev.of (chairs_Inversions.mono _) h3) ?_))
      obtain ⟨d0, d1, d2, d3⟩ := hd
      refine Ev.congr (fun k => ?_) hE'
      simp only [if_true]
      rw [if_neg (by omega), if_neg (by omega), if_pos d0, if_pos d1, w64 (by omega) (by omega), w64 (by omega) (by omega)]
      rfl
theorem kr0 : krun 100 [0, 0, 0, 0, 0, 0, 0, 0, 0, 0, 0] 0 = some [60, 33, 7, 0, 0, 0, 0, 0, 0, 0, 0] := by decide +kernel
theorem kr1 : krun 100 [60, 33, 7, 0, 0, 0, 0, 0, 0, 0, 0] 100 = some [119, 64, 14, 3, 0, 0, 0, 0, 0, 0, 0] := by decide +kernel
theorem kr2 : krun 100 [119, 64, 14, 3, 0, 0, 0, 0, 0, 0, 0] 200 = some [120, 111, 49, 20, 0, 0, 0, 0, 0, 0, 0] := by decide +kernel
theorem kr3 : krun 100 [120, 111, 49, 20, 0, 0, 0, 0, 0, 0, 0] 300 = some [120, 142, 84, 35, 15, 4, 0, 0, 0, 0, 0] := by decide +kernel
theorem kr4 : krun 100 [120, 142, 84, 35, 15, 4, 0, 0, 0, 0, 0] 400 = some [120, 195, 106, 49, 20, 8, 2, 0, 0, 0, 0] := by decide +kernel
theorem kr5 : krun 100 [120, 195, 106, 49, 20, 8, 2, 0, 0, 0, 0] 500 = some [120, 204, 148, 77, 38, 11, 2, 0, 0, 0, 0] := by decide +kernel
theorem kr6 : krun 100 [120, 204, 148, 77, 38, 11, 2, 0, 0, 0, 0] 600 = some [120, 204, 173, 110, 65, 24, 4, 0, 0, 0, 0] := by decide +kernel
theorem kr7 : krun 100 [120, 204, 173, 110, 65, 24, 4, 0, 0, 0, 0] 700 = some [120, 231, 198, 129, 76, 34, 10, 2, 0, 0, 0] := by decide +kernel
theorem kr8 : krun 100 [120, 231, 198, 129, 76, 34, 10, 2, 0, 0, 0] 800 = some [120, 231, 220, 159, 104, 51, 13, 2, 0, 0, 0] := by decide +kernel
theorem kr9 : krun 100 [120, 231, 220, 159, 104, 51, 13, 2, 0, 0, 0] 900 = some [120, 238, 236, 178, 114, 68, 32, 12, 2, 0, 0] := by decide +kernel
theorem kr10 : krun 100 [120, 238, 236, 178, 114, 68, 32, 12, 2, 0, 0] 1000 = some [120, 239, 253, 210, 138, 86, 39, 13, 2, 0, 0] := by decide +kernel
theorem kr11 : krun 100 [120, 239, 253, 210, 138, 86, 39, 13, 2, 0, 0] 1100 = some [120, 240, 270, 225, 159, 99, 52, 24, 9, 2, 0] := by decide +kernel
theorem kr12 : krun 96 [120, 240, 270, 225, 159, 99, 52, 24, 9, 2, 0] 1200 = some [120, 240, 270, 240, 180, 120, 70, 35, 15, 5, 1] := by decide +kernel
theorem krew5 : Ev (fun k => pomadelaw03_ChairsKreweras.l0 k 5 [120, 240, 270, 240, 180, 120, 70, 35, 15, 5, 1] 1296 [0, 0, 0, 0, 0, 0, 0, 0, 0, 0, 0] ((0 : Nat) : Int)) true := by
  refine krun_ev _ _ 100 _ 0 _ (by omega) kr0 ?_
  refine krun_ev _ _ 100 _ 100 _ (by omega) kr1 ?_
  refine krun_ev _ _ 100 _ 200 _ (by omega) kr2 ?_
  refine krun_ev _ _ 100 _ 300 _ (by omega) kr3 ?_
  refine krun_ev _ _ 100 _ 400 _ (by omega) kr4 ?_
  refine krun_ev _ _ 100 _ 500 _ (by omega) kr5 ?_
  refine krun_ev _ _ 100 _ 600 _ (by omega) kr6 ?_
  refine krun_ev _ _ 100 _ 700 _ (by omega) kr7 ?_
  refine krun_ev _ _ 100 _ 800 _ (by omega) kr8 ?_
  refine krun_ev _ _ 100 _ 900 _ (by omega) kr9 ?_
  refine krun_ev _ _ 100 _ 1000 _ (by omega) kr10 ?_
  refine krun_ev _ _ 100 _ 1100 _ (by omega) kr11 ?_
  refine krun_ev _ _ 96 _ 1200 _ (by omega) kr12 ?_
  exact Ev.of (fun k => (pomadelaw03_ChairsKreweras.mono_l k).2 _ _ _ _ _) (k := 30) (by decide +kernel)
theorem krew5' : ∃ k, pomadelaw03_ChairsKreweras.f k 4 = some true := by
  refine Ev.rounds ?_
  have hc : Ev (fun k => chairs_Count.f k 5 5) (1296, 0) := Ev.of (chairs_Count.mono _ _) (k := 30) (by decide +kernel)
  have hs : chairs_Spread.f 5 = some ([120, 240, 270, 240, 180, 120, 70, 35, 15, 5, 1], 0) := by decide +kernel
  refine Ev.congr (f := fun k => (chairs_Count.f k 5 5).bind fun bt684 => if bt684.2 = 0 then pomadelaw03_ChairsKreweras.j0 k 5 [120, 240, 270, 240, 180, 120, 70, 35, 15, 5, 1] bt684.1 (decide (bt684.1 > 2000)) else pomadelaw03_ChairsKreweras.j0 k 5 [120, 240, 270, 240, 180, 120, 70, 35, 15, 5, 1] bt684.1 true) (fun k => ?_) (Ev.bind hc ?_)
  · unfold pomadelaw03_ChairsKreweras.f
    have hw : (([120, 240, 270, 240, 180, 120, 70, 35, 15, 5, 1] : List Int).length : Int) = wrap64 (wrap64 ((wrap64 (5 * wrap64 (5 - 1))).tdiv 2) + 1) := by decide +kernel
    rw [show wrap64 (1 + wrap64 (Int.tmod 4 5)) = 5 by decide +kernel, hs, Option.bind_some]
    congr 1
    funext bt684
    rw [if_pos rfl]
    split <;> first | rfl | rw [if_pos hw] | exact absurd hw (by assumption)
  · refine Ev.step (fun k => ?_) krew5
    rfl
theorem ChairsKreweras_pure : pomadelaw03_ChairsKreweras.Pure := by
  intro a0 wf
  have b : 0 ≤ a0 ∧ a0 ≤ 255 := by
    simp [Lit.wf, IntKind.bits, IntKind.signed, IntKind.min, IntKind.max] at wf
    omega
  have e : ∀ x : Int, 0 ≤ x → Int.tmod x 5 = Int.tmod (x % 5) 5 := fun x hx => by
    rw [Int.tmod_eq_emod_of_nonneg hx, Int.tmod_eq_emod_of_nonneg (by omega)]; omega
  have e2 : ∀ k, pomadelaw03_ChairsKreweras.f k a0 = pomadelaw03_ChairsKreweras.f k (a0 % 5) := fun k => by
    unfold pomadelaw03_ChairsKreweras.f
    rw [e a0 b.1]
  have h5 : a0 % 5 = 0 ∨ a0 % 5 = 1 ∨ a0 % 5 = 2 ∨ a0 % 5 = 3 ∨ a0 % 5 = 4 := by omega
  rcases h5 with h | h | h | h | h
  · exact ⟨200, by rw [e2, h]; exact krew1⟩
  · exact ⟨200, by rw [e2, h]; exact krew2⟩
  · exact ⟨200, by rw [e2, h]; exact krew3⟩
  · exact ⟨500, by rw [e2, h]; exact krew4⟩
  · obtain ⟨k, hk⟩ := krew5'
    exact ⟨k, by rw [e2, h]; exact hk⟩
end Go.Proofs.Ytfopeenjpdaacaa.L
namespace Go.Proofs.Ytfopeenjpdaacaa.Pure
theorem ChairsKreweras : Go.Proofs.Ytfopeenjpdaacaa.PC.pomadelaw03_ChairsKreweras.Pure := Go.Proofs.Ytfopeenjpdaacaa.L.ChairsKreweras_pure
end Go.Proofs.Ytfopeenjpdaacaa.Pure
end
