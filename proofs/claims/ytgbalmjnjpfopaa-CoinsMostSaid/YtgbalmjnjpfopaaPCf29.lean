-- Printed by a program of this session (mkprint.sh, over the kit's print.py), with own proofs for the functions that the print does not take.
import Derived.Test.YtgbalmjnjpfopaaPCf32
import Derived.Test.YtgbalmjnjpfopaaPCx0
namespace Go.Proofs.Ytgbalmjnjpfopaa.PC
open Go.RowKit Go.Proofs.YtgbalmjnjpfopaaW.PrintWords Go.Proofs.YtgbalmjnjpfopaaW.PrintLast Go.Proofs.YtgbalmjnjpfopaaW.PrintMore
attribute [local go_sem] max2_int min2_int max_two min_two max_three min_three max_four min_four   -- for this text's walks alone
set_option linter.unusedVariables false
set_option linter.unusedSimpArgs false

/-! ### pomaderef05_Both: function 29 -/
mutual
def pomaderef05_Both.l0 : Nat → List Int → Int → Int → Int → List Int → List Int → Int → Option (Int × Int)
  | 0, _, _, _, _, _, _, _ => none
  | k + 1, x0, x1, x7, x8, x9, x10, x11 => if x11 < (x10.length : Int) then (if 0 ≤ (wrap64 (x7 + x1)) then (if (wrap64 (x7 + x1)) < (x9.length : Int) then (pomaderef05_Both.j1 k x0 x1 x7 x8 x9 x10 x11 ((rd x9 (wrap64 (x7 + x1))) == 0)) else (none)) else (none)) else (pomaderef05_Both.j1 k x0 x1 x7 x8 x9 x10 x11 false)
def pomaderef05_Both.j1 : Nat → List Int → Int → Int → Int → List Int → List Int → Int → Bool → Option (Int × Int)
  | 0, _, _, _, _, _, _, _, _ => none
  | k + 1, x0, x1, x7, x8, x9, x10, x11, x52 => if x52 = true then (if 0 ≤ x11 then (if x11 < (x10.length : Int) then (pomaderef05_Both.l1 k x0 x1 x7 x8 x9 x10 x11 (rd x10 x11) 0) else (none)) else (none)) else (if 0 ≤ (wrap64 (x7 + x1)) then (if (wrap64 (x7 + x1)) < (x9.length : Int) then (some (wrap64 ((rd x9 (wrap64 (x7 + x1))) - 1), 0)) else (none)) else (none))
def pomaderef05_Both.l1 : Nat → List Int → Int → Int → Int → List Int → List Int → Int → Int → Int → Option (Int × Int)
  | 0, _, _, _, _, _, _, _, _, _ => none
  | k + 1, x0, x1, x7, x8, x9, x10, x11, x12, x13 => if x13 < (x0.length : Int) then (pomaderef05_Both.l2 k x0 x1 x7 x8 x9 x10 x11 x12 x13 (-1)) else (pomaderef05_Both.l0 k x0 x1 x7 x8 x9 x10 (wrap64 (x11 + 1)))
def pomaderef05_Both.l2 : Nat → List Int → Int → Int → Int → List Int → List Int → Int → Int → Int → Int → Option (Int × Int)
  | 0, _, _, _, _, _, _, _, _, _, _ => none
  | k + 1, x0, x1, x7, x8, x9, x10, x11, x12, x13, x14 => if x14 ≤ 1 then (if 0 ≤ x13 then (if x13 < (x0.length : Int) then (if (wrap64 (x12 + (wrap64 (x14 * (rd x0 x13))))) ≥ 0 then (if (wrap64 (x12 + (wrap64 (x14 * (rd x0 x13))))) < x8 then (if 0 ≤ (wrap64 (x12 + (wrap64 (x14 * (rd x0 x13))))) then (if (wrap64 (x12 + (wrap64 (x14 * (rd x0 x13))))) < (x9.length : Int) then (if (rd x9 (wrap64 (x12 + (wrap64 (x14 * (rd x0 x13)))))) = 0 then (if 0 ≤ x12 then (if x12 < (x9.length : Int) then (if x10.length < 17592186044416 then (pomaderef05_Both.l2 k x0 x1 x7 x8 (x9.set ((wrap64 (x12 + (wrap64 (x14 * (rd x0 x13))))) : Int).toNat (wrap64 ((rd x9 x12) + 1))) (x10 ++ [wrap64 (x12 + (wrap64 (x14 * (rd x0 x13))))]) x11 x12 x13 (wrap64 (x14 + 2))) else (none)) else (none)) else (none)) else (pomaderef05_Both.l2 k x0 x1 x7 x8 x9 x10 x11 x12 x13 (wrap64 (x14 + 2)))) else (none)) else (none)) else (pomaderef05_Both.l2 k x0 x1 x7 x8 x9 x10 x11 x12 x13 (wrap64 (x14 + 2)))) else (pomaderef05_Both.l2 k x0 x1 x7 x8 x9 x10 x11 x12 x13 (wrap64 (x14 + 2)))) else (none)) else (none)) else (pomaderef05_Both.l1 k x0 x1 x7 x8 x9 x10 x11 x12 (wrap64 (x13 + 1)))
end
def pomaderef05_Both.f (k : Nat) (l0 : List Int) (a1 : Int) : Option (Int × Int) := (pomaderef05_asked.f k l0 a1 100000).bind fun t444 => (if t444 = 0 then (if 0 ≤ (wrap64 ((l0.length : Int) - 1)) then (if (wrap64 ((l0.length : Int) - 1)) < (l0.length : Int) then (if 0 ≤ (wrap64 ((wrap64 (a1 + (wrap64 (2 * (rd l0 (wrap64 ((l0.length : Int) - 1))))))) + 1)) then (if (wrap64 ((wrap64 (a1 + (wrap64 (2 * (rd l0 (wrap64 ((l0.length : Int) - 1))))))) + 1) : Int).toNat ≤ 35184372088832 then ((some (List.replicate (wrap64 ((wrap64 (a1 + (wrap64 (2 * (rd l0 (wrap64 ((l0.length : Int) - 1))))))) + 1) : Int).toNat 0 : List Int)).bind fun y446 => (if 0 ≤ (rd l0 (wrap64 ((l0.length : Int) - 1))) then (if (rd l0 (wrap64 ((l0.length : Int) - 1))) < (y446.length : Int) then (pomaderef05_Both.l0 k l0 a1 (rd l0 (wrap64 ((l0.length : Int) - 1))) (wrap64 ((wrap64 (a1 + (wrap64 (2 * (rd l0 (wrap64 ((l0.length : Int) - 1))))))) + 1)) (y446.set ((rd l0 (wrap64 ((l0.length : Int) - 1))) : Int).toNat 1) (([rd l0 (wrap64 ((l0.length : Int) - 1))] : List Int)) 0) else (none)) else (none))) else (none)) else (none)) else (none)) else (none)) else (some (0, t444)))
theorem pomaderef05_Both.mono_l : ∀ k, (∀ y0 y1 y2 y3 y4 y5 y6, LeO (pomaderef05_Both.l0 k y0 y1 y2 y3 y4 y5 y6) (pomaderef05_Both.l0 (k + 1) y0 y1 y2 y3 y4 y5 y6)) ∧ (∀ y0 y1 y2 y3 y4 y5 y6 y7, LeO (pomaderef05_Both.j1 k y0 y1 y2 y3 y4 y5 y6 y7) (pomaderef05_Both.j1 (k + 1) y0 y1 y2 y3 y4 y5 y6 y7)) ∧ (∀ y0 y1 y2 y3 y4 y5 y6 y7 y8, LeO (pomaderef05_Both.l1 k y0 y1 y2 y3 y4 y5 y6 y7 y8) (pomaderef05_Both.l1 (k + 1) y0 y1 y2 y3 y4 y5 y6 y7 y8)) ∧ (∀ y0 y1 y2 y3 y4 y5 y6 y7 y8 y9, LeO (pomaderef05_Both.l2 k y0 y1 y2 y3 y4 y5 y6 y7 y8 y9) (pomaderef05_Both.l2 (k + 1) y0 y1 y2 y3 y4 y5 y6 y7 y8 y9))
  | 0 => ⟨fun _ _ _ _ _ _ _ r h => by simp [pomaderef05_Both.l0] at h, fun _ _ _ _ _ _ _ _ r h => by simp [pomaderef05_Both.j1] at h, fun _ _ _ _ _ _ _ _ _ r h => by simp [pomaderef05_Both.l1] at h, fun _ _ _ _ _ _ _ _ _ _ r h => by simp [pomaderef05_Both.l2] at h⟩
  | k + 1 => by
    obtain ⟨ih0, ih1, ih2, ih3⟩ := pomaderef05_Both.mono_l k
    refine ⟨?_, ?_, ?_, ?_⟩
    · intro y0 y1 y2 y3 y4 y5 y6
      unfold pomaderef05_Both.l0
      repeat' first
      | (with_reducible exact ih0 _ _ _ _ _ _ _)
      | (with_reducible exact ih1 _ _ _ _ _ _ _ _)
      | (with_reducible exact ih2 _ _ _ _ _ _ _ _ _)
      | (with_reducible exact ih3 _ _ _ _ _ _ _ _ _ _)
      | (with_reducible exact pomaderef05_asked.mono _ _ _ _)
      | (with_reducible exact LeO.refl _)
      | (with_reducible exact LeO.none _)
      | (with_reducible refine LeO.ite ?_ ?_)
      | (with_reducible refine LeO.bind ?_ (fun _ => ?_))
      | exact ih0 _ _ _ _ _ _ _
      | exact ih1 _ _ _ _ _ _ _ _
      | exact ih2 _ _ _ _ _ _ _ _ _
      | exact ih3 _ _ _ _ _ _ _ _ _ _
      | exact pomaderef05_asked.mono _ _ _ _
      | exact LeO.none _
      | refine LeO.ite ?_ ?_
      | refine LeO.bind ?_ (fun _ => ?_)
    · intro y0 y1 y2 y3 y4 y5 y6 y7
      unfold pomaderef05_Both.j1
      repeat' first
      | (with_reducible exact ih0 _ _ _ _ _ _ _)
      | (with_reducible exact ih1 _ _ _ _ _ _ _ _)
      | (with_reducible exact ih2 _ _ _ _ _ _ _ _ _)
      | (with_reducible exact ih3 _ _ _ _ _ _ _ _ _ _)
      | (with_reducible exact pomaderef05_asked.mono _ _ _ _)
      | (with_reducible exact LeO.refl _)
      | (with_reducible exact LeO.none _)
      | (with_reducible refine LeO.ite ?_ ?_)
      | (with_reducible refine LeO.bind ?_ (fun _ => ?_))
      | exact ih0 _ _ _ _ _ _ _
      | exact ih1 _ _ _ _ _ _ _ _
      | exact ih2 _ _ _ _ _ _ _ _ _
      | exact ih3 _ _ _ _ _ _ _ _ _ _
      | exact pomaderef05_asked.mono _ _ _ _
      | exact LeO.none _
      | refine LeO.ite ?_ ?_
      | refine LeO.bind ?_ (fun _ => ?_)
    · intro y0 y1 y2 y3 y4 y5 y6 y7 y8
      unfold pomaderef05_Both.l1
      repeat' first
      | (with_reducible exact ih0 _ _ _ _ _ _ _)
      | (with_reducible exact ih1 _ _ _ _ _ _ _ _)
      | (with_reducible exact ih2 _ _ _ _ _ _ _ _ _)
      | (with_reducible exact ih3 _ _ _ _ _ _ _ _ _ _)
      | (with_reducible exact pomaderef05_asked.mono _ _ _ _)
      | (with_reducible exact LeO.refl _)
      | (with_reducible exact LeO.none _)
      | (with_reducible refine LeO.ite ?_ ?_)
      | (with_reducible refine LeO.bind ?_ (fun _ => ?_))
      | exact ih0 _ _ _ _ _ _ _
      | exact ih1 _ _ _ _ _ _ _ _
      | exact ih2 _ _ _ _ _ _ _ _ _
      | exact ih3 _ _ _ _ _ _ _ _ _ _
      | exact pomaderef05_asked.mono _ _ _ _
      | exact LeO.none _
      | refine LeO.ite ?_ ?_
      | refine LeO.bind ?_ (fun _ => ?_)
    · intro y0 y1 y2 y3 y4 y5 y6 y7 y8 y9
      unfold pomaderef05_Both.l2
      repeat' first
      | (with_reducible exact ih0 _ _ _ _ _ _ _)
      | (with_reducible exact ih1 _ _ _ _ _ _ _ _)
      | (with_reducible exact ih2 _ _ _ _ _ _ _ _ _)
      | (with_reducible exact ih3 _ _ _ _ _ _ _ _ _ _)
      | (with_reducible exact pomaderef05_asked.mono _ _ _ _)
      | (with_reducible exact LeO.refl _)
      | (with_reducible exact LeO.none _)
      | (with_reducible refine LeO.ite ?_ ?_)
      | (with_reducible refine LeO.bind ?_ (fun _ => ?_))
      | exact ih0 _ _ _ _ _ _ _
      | exact ih1 _ _ _ _ _ _ _ _
      | exact ih2 _ _ _ _ _ _ _ _ _
      | exact ih3 _ _ _ _ _ _ _ _ _ _
      | exact pomaderef05_asked.mono _ _ _ _
      | exact LeO.none _
      | refine LeO.ite ?_ ?_
      | refine LeO.bind ?_ (fun _ => ?_)
theorem pomaderef05_Both.mono : ∀ a0 a1 k, LeO (pomaderef05_Both.f k a0 a1) (pomaderef05_Both.f (k + 1) a0 a1) := by
  intro a0 a1 k
  obtain ⟨ih0, ih1, ih2, ih3⟩ := pomaderef05_Both.mono_l k
  unfold pomaderef05_Both.f
  repeat' first
      | (with_reducible exact ih0 _ _ _ _ _ _ _)
      | (with_reducible exact ih1 _ _ _ _ _ _ _ _)
      | (with_reducible exact ih2 _ _ _ _ _ _ _ _ _)
      | (with_reducible exact ih3 _ _ _ _ _ _ _ _ _ _)
      | (with_reducible exact pomaderef05_asked.mono _ _ _ _)
      | (with_reducible exact LeO.refl _)
      | (with_reducible exact LeO.none _)
      | (with_reducible refine LeO.ite ?_ ?_)
      | (with_reducible refine LeO.bind ?_ (fun _ => ?_))
      | exact ih0 _ _ _ _ _ _ _
      | exact ih1 _ _ _ _ _ _ _ _
      | exact ih2 _ _ _ _ _ _ _ _ _
      | exact ih3 _ _ _ _ _ _ _ _ _ _
      | exact pomaderef05_asked.mono _ _ _ _
      | exact LeO.none _
      | refine LeO.ite ?_ ?_
      | refine LeO.bind ?_ (fun _ => ?_)
set_option maxHeartbeats 8000000 in
set_option maxRecDepth 100000 in
theorem pomaderef05_Both.calls (k : Nat) (A0 : Option Addr) (c0 : Nat) (l0 : List Int) (a1 : Int) (r1 : Int) (r2 : Int) (w : World) (hr0 : Kd.C (Kd.int .i64) w A0 l0.length l0) (hc0 : l0.length ≤ c0) (h : pomaderef05_Both.f k l0 a1 = some (r1, r2)) :
    Calls Try.prog 29 #[.slice A0 l0.length c0, .int .i64 a1] w fun e w' => e = .returned (.tuple #[.int .i64 r1, .int .i64 r2]) ∧ Below w.heap.size w w' := by
  have HR0 := Aside0.mk hr0
  have HC0 := Aside0.mk hc0
  clear hr0 hc0
  have HB := Aside0.mk (Below.refl w.heap.size w)
  have H : ((pomaderef05_asked.f k l0 a1 100000).bind fun t444 => (if t444 = 0 then (if 0 ≤ (wrap64 ((l0.length : Int) - 1)) then (if (wrap64 ((l0.length : Int) - 1)) < (l0.length : Int) then (if 0 ≤ (wrap64 ((wrap64 (a1 + (wrap64 (2 * (rd l0 (wrap64 ((l0.length : Int) - 1))))))) + 1)) then (if (wrap64 ((wrap64 (a1 + (wrap64 (2 * (rd l0 (wrap64 ((l0.length : Int) - 1))))))) + 1) : Int).toNat ≤ 35184372088832 then ((some (List.replicate (wrap64 ((wrap64 (a1 + (wrap64 (2 * (rd l0 (wrap64 ((l0.length : Int) - 1))))))) + 1) : Int).toNat 0 : List Int)).bind fun y446 => (if 0 ≤ (rd l0 (wrap64 ((l0.length : Int) - 1))) then (if (rd l0 (wrap64 ((l0.length : Int) - 1))) < (y446.length : Int) then (pomaderef05_Both.l0 k l0 a1 (rd l0 (wrap64 ((l0.length : Int) - 1))) (wrap64 ((wrap64 (a1 + (wrap64 (2 * (rd l0 (wrap64 ((l0.length : Int) - 1))))))) + 1)) (y446.set ((rd l0 (wrap64 ((l0.length : Int) - 1))) : Int).toNat 1) (([rd l0 (wrap64 ((l0.length : Int) - 1))] : List Int)) 0) else (none)) else (none))) else (none)) else (none)) else (none)) else (none)) else (some (0, t444)))) = some (r1, r2) := h
  clear h
  replace H := Option.bind_eq_some_iff.mp H
  obtain ⟨t444, A30, H⟩ := H
  replace H : (if t444 = 0 then (if 0 ≤ (wrap64 ((l0.length : Int) - 1)) then (if (wrap64 ((l0.length : Int) - 1)) < (l0.length : Int) then (if 0 ≤ (wrap64 ((wrap64 (a1 + (wrap64 (2 * (rd l0 (wrap64 ((l0.length : Int) - 1))))))) + 1)) then (if (wrap64 ((wrap64 (a1 + (wrap64 (2 * (rd l0 (wrap64 ((l0.length : Int) - 1))))))) + 1) : Int).toNat ≤ 35184372088832 then ((some (List.replicate (wrap64 ((wrap64 (a1 + (wrap64 (2 * (rd l0 (wrap64 ((l0.length : Int) - 1))))))) + 1) : Int).toNat 0 : List Int)).bind fun y446 => (if 0 ≤ (rd l0 (wrap64 ((l0.length : Int) - 1))) then (if (rd l0 (wrap64 ((l0.length : Int) - 1))) < (y446.length : Int) then (pomaderef05_Both.l0 k l0 a1 (rd l0 (wrap64 ((l0.length : Int) - 1))) (wrap64 ((wrap64 (a1 + (wrap64 (2 * (rd l0 (wrap64 ((l0.length : Int) - 1))))))) + 1)) (y446.set ((rd l0 (wrap64 ((l0.length : Int) - 1))) : Int).toNat 1) (([rd l0 (wrap64 ((l0.length : Int) - 1))] : List Int)) 0) else (none)) else (none))) else (none)) else (none)) else (none)) else (none)) else (some (0, t444))) = some (r1, r2) := H
  have A3 := Aside0.mk A30
  clear A30
  by_cases c4 : t444 = 0
  · rw [if_pos c4] at H
    have c4b0 : (t444 == 0) = true := beq_iff_eq.mpr c4
    have c4b1 : (t444 != 0) = false := bne_eq_false_iff_eq.mpr c4
    clear c4
    obtain ⟨ji5, hji5⟩ : ∃ j_ : Int, (wrap64 ((l0.length : Int) - 1)) = j_ := ⟨_, rfl⟩
    replace H : (if 0 ≤ (ji5) then (if (ji5) < (l0.length : Int) then (if 0 ≤ (wrap64 ((wrap64 (a1 + (wrap64 (2 * (rd l0 (ji5)))))) + 1)) then (if (wrap64 ((wrap64 (a1 + (wrap64 (2 * (rd l0 (ji5)))))) + 1) : Int).toNat ≤ 35184372088832 then ((some (List.replicate (wrap64 ((wrap64 (a1 + (wrap64 (2 * (rd l0 (ji5)))))) + 1) : Int).toNat 0 : List Int)).bind fun y446 => (if 0 ≤ (rd l0 (ji5)) then (if (rd l0 (ji5)) < (y446.length : Int) then (pomaderef05_Both.l0 k l0 a1 (rd l0 (ji5)) (wrap64 ((wrap64 (a1 + (wrap64 (2 * (rd l0 (ji5)))))) + 1)) (y446.set ((rd l0 (ji5)) : Int).toNat 1) (([rd l0 (ji5)] : List Int)) 0) else (none)) else (none))) else (none)) else (none)) else (none)) else (none)) = some (r1, r2) := by first | (rw [hji5] at H; exact H) | (simp only [hji5] at H ⊢; exact H)
    (try rw [hji5] at A3)
    have hji5w : (IntKind.i64.wrap ((l0.length : Int) - 1)) = ji5 := (i64_w _).trans hji5
    by_cases c6 : 0 ≤ (ji5)
    · rw [if_pos c6] at H
      have c6b0 : decide (0 ≤ (ji5)) = true := decide_eq_true c6
      clear c6
      by_cases c7 : (ji5) < (l0.length : Int)
      · rw [if_pos c7] at H
        have c7b0 : decide ((ji5) < (l0.length : Int)) = true := decide_eq_true c7
        clear c7
        obtain ⟨ji8, hji8⟩ : ∃ j_ : Int, (wrap64 ((wrap64 (a1 + (wrap64 (2 * (rd l0 (ji5)))))) + 1)) = j_ := ⟨_, rfl⟩
        replace H : (if 0 ≤ (ji8) then (if (ji8 : Int).toNat ≤ 35184372088832 then ((some (List.replicate (ji8 : Int).toNat 0 : List Int)).bind fun y446 => (if 0 ≤ (rd l0 (ji5)) then (if (rd l0 (ji5)) < (y446.length : Int) then (pomaderef05_Both.l0 k l0 a1 (rd l0 (ji5)) ji8 (y446.set ((rd l0 (ji5)) : Int).toNat 1) (([rd l0 (ji5)] : List Int)) 0) else (none)) else (none))) else (none)) else (none)) = some (r1, r2) := by first | (rw [hji8] at H; exact H) | (simp only [hji8] at H ⊢; exact H)
        (try rw [hji8] at A3)
        have hji8w : (IntKind.i64.wrap ((wrap64 (a1 + (wrap64 (2 * (rd l0 (ji5)))))) + 1)) = ji8 := (i64_w _).trans hji8
        by_cases c9 : 0 ≤ (ji8)
        · rw [if_pos c9] at H
          have c9b0 := eq_true c9
          have c9b1 : decide (0 ≤ (ji8)) = true := decide_eq_true c9
          clear c9
          by_cases c10 : (ji8 : Int).toNat ≤ 35184372088832
          · rw [if_pos c10] at H
            have c10b0 := eq_true c10
            have c10b1 : decide ((ji8 : Int).toNat ≤ 35184372088832) = true := decide_eq_true c10
            clear c10
            obtain ⟨y446, hy446⟩ : ∃ y_ : List Int, y_ = (List.replicate (ji8 : Int).toNat 0) := ⟨_, rfl⟩
            replace H : (if 0 ≤ (rd l0 (ji5)) then (if (rd l0 (ji5)) < (y446.length : Int) then (pomaderef05_Both.l0 k l0 a1 (rd l0 (ji5)) ji8 (y446.set ((rd l0 (ji5)) : Int).toNat 1) (([rd l0 (ji5)] : List Int)) 0) else (none)) else (none)) = some (r1, r2) := by first | (rw [hy446]; with_reducible exact H) | (have H2_ := (Option.bind_some _ _).symm.trans H; rw [hy446]; with_reducible exact H2_) | (have H2_ := (Option.bind_some _ _).symm.trans H; with_reducible exact H2_) | with_reducible exact H | (rw [hy446]; exact H) | exact H
            have Ny446 := Aside0.mk hy446
            clear hy446
            obtain ⟨y449, hy449⟩ : ∃ y_ : List Int, y_ = (([rd l0 (ji5)] : List Int)) := ⟨_, rfl⟩
            replace H : (if 0 ≤ (rd l0 (ji5)) then (if (rd l0 (ji5)) < (y446.length : Int) then (pomaderef05_Both.l0 k l0 a1 (rd l0 (ji5)) ji8 (y446.set ((rd l0 (ji5)) : Int).toNat 1) y449 0) else (none)) else (none)) = some (r1, r2) := by first | (rw [hy449]; with_reducible exact H) | (have H2_ := (Option.bind_some _ _).symm.trans H; rw [hy449]; with_reducible exact H2_) | (have H2_ := (Option.bind_some _ _).symm.trans H; with_reducible exact H2_) | with_reducible exact H | (rw [hy449]; exact H) | exact H
            have Ny449 := Aside0.mk hy449
            clear hy449
            by_cases c11 : 0 ≤ (rd l0 (ji5))
            · rw [if_pos c11] at H
              have c11b0 : decide (0 ≤ (rd l0 (ji5))) = true := decide_eq_true c11
              clear c11
              by_cases c12 : (rd l0 (ji5)) < (y446.length : Int)
              · rw [if_pos c12] at H
                have c12b0 : decide ((rd l0 (ji5)) < (y446.length : Int)) = true := decide_eq_true c12
                clear c12
                obtain ⟨y452, hy452⟩ : ∃ y_ : List Int, y_ = (y446.set ((rd l0 (ji5)) : Int).toNat 1) := ⟨_, rfl⟩
                replace H : (pomaderef05_Both.l0 k l0 a1 (rd l0 (ji5)) ji8 y452 y449 0) = some (r1, r2) := by first | (rw [hy452]; with_reducible exact H) | (have H2_ := (Option.bind_some _ _).symm.trans H; rw [hy452]; with_reducible exact H2_) | (have H2_ := (Option.bind_some _ _).symm.trans H; with_reducible exact H2_) | with_reducible exact H | (rw [hy452]; exact H) | exact H
                have Ny452 := Aside0.mk hy452
                clear hy452
                have H' := Aside0.mk H
                clear H
                go_enter Try.func29, Try.ntmps29
                go_wp2_with (first | ((with_reducible refine gate_callee (f := 32) rfl ?_); refine goesL_ (some 18) rfl rfl Try.func32 (by kernel_rfl) rfl #[.slice A0 l0.length c0, .int .i64 a1, .int .i64 100000] rfl (by (try simp only [List.map_toArray, List.map_cons, List.map_nil]); first | done | rfl | (simp only [List.length_drop, List.length_take]; rfl)) ?_; (with_reducible refine (pomaderef05_asked.calls k _ _ l0 a1 100000 t444 _ ?side1 ?side2 A3.out).mono ?_); (case side1 => repeat (first | exact HR0.out | (with_reducible refine Kd.C_alloc ?_ _) | (with_reducible refine Kd.C_drewN ?_ _) | (with_reducible refine Kd.C_drew ?_))); (case side2 => exact HC0.out); rintro e w' ⟨rfl, ⟨nd, rfl⟩⟩; refine ⟨_, rfl, ?_⟩; have p445 : 0 ≤ ((ji5) : Int) := of_decide_eq_true (by first | (with_reducible assumption) | assumption); have q445 : (ji5) < (l0.length : Int) := of_decide_eq_true (by first | (with_reducible assumption) | assumption); obtain ⟨ad445, e445, hx445_0⟩ := Kd.at_int HR0.out (ji5) p445 q445; cases e445; replace p445 := eq_true p445; replace q445 := eq_true q445) | ((with_reducible refine gate_dst (N := 34) rfl ?_); refine Kd.R_make (Kd.int .i64) _ 3 rfl (N := 34) rfl 22 _ _ rfl ji8 rfl rfl Try.underlying22 (.int .i64 0) 8 info3 rfl (by decide) (by omega) 0 (ok := fun _ => True) (okp := fun _ => True) rfl (fun _ hk => hk) trivial (of_decide_eq_true (by first | (with_reducible assumption) | assumption)) (Nat.le_trans (Nat.mul_le_mul_right _ (of_decide_eq_true (by first | (with_reducible assumption) | assumption) : ji8.toNat ≤ 35184372088832)) (by omega)) (Below.refl _ _) (Nat.le_refl _) ?_; intro v447 w14 ho15 hb hg_ hnew_; clear hg_ hnew_; (first | rw [← Ny446.out] at ho15 | (simp only [Int.reduceToNat] at ho15; rw [← Ny446.out] at ho15)); have n0_ := Aside0.mk (Kd.R_lower ho15 (below_size (by repeat (first | (with_reducible first | exact HB.out | apply below_alloc | apply pw_below_drewN | apply below_drew1) | exact HB.out)))); have n1_ := Aside0.mk (below_step (by repeat (first | (with_reducible first | exact HB.out | apply below_alloc | apply pw_below_drewN | apply below_drew1) | exact HB.out)) hb); clear HB; have HO448 := n0_; have HB := n1_; clear n0_ n1_; clear hb ho15) | ((with_reducible refine gate_dst (N := 36) rfl ?_); refine Kd.R_lit (Kd.int .i64) _ 3 ?hg (N := 36) ?hd (xs := ([rd l0 (ji5)] : List Int)) (inner := [.int .i64 (rd l0 (ji5))]) (ok := fun _ => True) (okp := fun _ => True) ?hr ?hp (fun _ hk => hk) trivial (Below.refl _ _) (Nat.le_refl _) (by simp) ?_; (case hd => rfl); (case hg => rfl); (case hr => first | (go_simp; done) | (go_simp; rfl)); (case hp => exact (Reps.one (show Kd.M (Kd.int .i64) _ _ _ (rd l0 (ji5)) [.int .i64 (rd l0 (ji5))] from rfl) (Reps.none _ _))); intro v450 w16 ho17 hb hg_ hnew_; clear hg_ hnew_; (first | rw [← Ny449.out] at ho17 | (simp only [Int.reduceToNat] at ho17; rw [← Ny449.out] at ho17)); have n0_ := Aside0.mk (Kd.R_elder' (by (with_reducible repeat (first | apply Kd.R_alloc | apply Kd.R_drewN | apply Kd.R_drew)); exact HO448.out) (Kd.R_base ho17) hb); have n1_ := Aside0.mk (Kd.R_lower (Kd.R_new' ho17 (Kd.R_lt (by (with_reducible repeat (first | apply Kd.R_alloc | apply Kd.R_drewN | apply Kd.R_drew)); exact HO448.out))) (below_size (by repeat (first | (with_reducible first | exact HB.out | apply below_alloc | apply pw_below_drewN | apply below_drew1) | exact HB.out)))); have n2_ := Aside0.mk (below_step (by repeat (first | (with_reducible first | exact HB.out | apply below_alloc | apply pw_below_drewN | apply below_drew1) | exact HB.out)) hb); clear HO448; clear HB; have HO448 := n0_; have HO451 := n1_; have HB := n2_; clear n0_ n1_ n2_; clear hb ho17; have p13 : 0 ≤ ((rd l0 (ji5)) : Int) := of_decide_eq_true (by first | (with_reducible assumption) | assumption); have q13 : ((rd l0 (ji5)) : Int) < ((y446.length : Int) : Int) := of_decide_eq_true (by first | (with_reducible assumption) | assumption); obtain ⟨go13, co13, eo13, gb13, gl13, cl13, HG13⟩ := Kd.R_form HO448.out (by omega); (first | cases eo13 | (injection eo13 with ea_ en_ ec_; (first | subst ea_ | (injection ea_ with ea_; subst ea_)); subst ec_; clear en_)); have GB13 := Aside0.mk gb13; have GG13 := Aside0.mk HG13; clear gb13 gl13 HG13; obtain ⟨hx13_0, hf13_0⟩ := Kd.R_celln 0 HO448.out ((rd l0 (ji5)) : Int) p13 q13; replace p13 := eq_true p13; replace q13 := eq_true q13; have n_ := Aside0.mk (Kd.R_mono (ok' := (fun k_ => some k_ ≠ (v450 : Value).ownBlock)) HO448.out (fun k_ hk => hk.2)); clear HO448; have HO448 := n_; clear n_; obtain ⟨hy18_, hz18_⟩ := Kd.R_celln 0 HO448.out ((rd l0 (ji5)) : Int) (of_decide_eq_true (by first | (with_reducible assumption) | assumption)) (of_decide_eq_true (by first | (with_reducible assumption) | assumption)); have HP18 := Kd.R_putg HO448.out ((rd l0 (ji5)) : Int) 1) | ((with_reducible refine gate_store (t := 3) (p := 39) rfl ?_); refine store_event (t := 3) (p := 39) (v := ?vo_w19) (w1 := (w16.setCell ⟨go13, ((rd l0 (ji5)) : Int).toNat, none⟩ (.int .i64 1))) ?hg ?ho ?hn ?hr ?_; (case ho => rfl); (case hg => rfl); (case hn => rfl); (case hr => first | (go_simp; done) | (go_simp; rfl)); intro w19 hw; have hg : w16.grownBy w19 (some go13) := (by rw [hw]; exact HP18.2); have hp_ : Kd.R (Kd.int .i64) 3 w19 w.heap.size (fun k_ => some k_ ≠ (v450 : Value).ownBlock) (.slice (some ⟨go13, 0, none⟩) y446.length co13) y452 := (by rw [hw, Ny452.out]; exact HP18.1); clear HP18; have n0_ := Aside0.mk (hp_); have n1_ := Aside0.mk (Kd.R_after (v := (.slice (some ⟨go13, 0, none⟩) y446.length co13)) (v1 := (.slice (some ⟨go13, 0, none⟩) y446.length co13)) (ok := (fun _ => True)) (by (with_reducible repeat (first | apply Kd.R_alloc | apply Kd.R_drewN | apply Kd.R_drew)); exact HO451.out) hg (.inl rfl)); have n2_ := Aside0.mk ((by rw [hw]; exact below_set (HB.out) GB13.out : Below w.heap.size w w19)); clear HO448; clear HO451; clear HB; have HO448 := n0_; have HO451 := n1_; have HB := n2_; clear n0_ n1_ n2_; clear hg hw hp_))
                go_loopg [10, 11] k (fun kq v10 v11 w' => ∃ (x9_1 : List Int) (x10_1 : List Int) (x11_1 : Int), v11 = .int .i64 x11_1 ∧ Aside0 (pomaderef05_Both.l0 kq l0 a1 (rd l0 (ji5)) ji8 x9_1 x10_1 x11_1 = some (r1, r2)) ∧ Aside0 (kq ≤ k) ∧ Aside0 (Kd.R (Kd.int .i64) 3 w' w.heap.size (fun k_ => some k_ ≠ (v10 : Value).ownBlock) (.slice (some ⟨go13, 0, none⟩) y446.length co13) x9_1) ∧ Aside0 (Kd.R (Kd.int .i64) 3 w' w.heap.size (fun k_ => some k_ ≠ ((.slice (some ⟨go13, 0, none⟩) y446.length co13) : Value).ownBlock) v10 x10_1) ∧ Aside0 (Below w.heap.size w w'))
                case atStart => exact ⟨(y452), (y449), (0), (by first | rfl | (simp; done) | (simp [*]; done)), H', ⟨Nat.le_refl _⟩, ⟨by (with_reducible repeat (first | apply Kd.R_alloc | apply Kd.R_drewN | apply Kd.R_drew)); exact HO448.out⟩, ⟨by (with_reducible repeat (first | apply Kd.R_alloc | apply Kd.R_drewN | apply Kd.R_drew)); exact Kd.R_mono HO451.out (fun _ hk => hk.2)⟩, ⟨by repeat (first | (with_reducible first | exact HB.out | apply below_alloc | apply pw_below_drewN | apply below_drew1) | exact HB.out)⟩⟩
                case round =>
                  clear H'
                  try clear c1
                  try clear p1
                  try clear q1
                  try clear hx1
                  try clear c2
                  try clear p2
                  try clear c3
                  try clear c4
                  try clear c4b0
                  try clear c4b1
                  try clear p4
                  try clear q4
                  try clear hx4
                  try clear c6
                  try clear c6b0
                  try clear p6
                  try clear c7
                  try clear c7b0
                  try clear c9
                  try clear c9b0
                  try clear c9b1
                  try clear c10
                  try clear c10b0
                  try clear c10b1
                  try clear c11
                  try clear c11b0
                  try clear c12
                  try clear c12b0
                  try clear p13
                  try clear q13
                  try clear hx13
                  try clear hf13
                  try clear hx13_0
                  try clear hx445_0
                  try clear p13
                  try clear p445
                  try clear q13
                  try clear q445
                  obtain ⟨x9_1, x10_1, x11_1, rfl, HA, HK1, HO_9, HO_10, HB⟩ := hrel
                  have hl9_1 := (Kd.R_reads' HO_9.out).1
                  rw [hl9_1] at HO_9
                  (try simp only [hl9_1])
                  (try simp only [hl9_1] at HO_10)
                  cases gk with
                  | zero => exact absurd HA.out (by simp [pomaderef05_Both.l0])
                  | succ k1 =>
                    have H := HA.out
                    clear HA
                    simp only [pomaderef05_Both.l0] at H
                    have HC20 := Aside0.mk H
                    clear H
                    go_upto_region 10 with (fail)
                    go_cut [52] (fun v52 wc => ∃ (kq : Nat) (x52_19 : Bool), v52 = .bool x52_19 ∧ Aside0 (pomaderef05_Both.j1 kq l0 a1 (rd l0 (ji5)) ji8 x9_1 x10_1 x11_1 x52_19 = some (r1, r2)) ∧ Aside0 (kq ≤ k1) ∧ Aside0 (Kd.R (Kd.int .i64) 3 wc w.heap.size (fun k_ => some k_ ≠ (u10 : Value).ownBlock) (.slice (some ⟨go13, 0, none⟩) x9_1.length co13) x9_1) ∧ Aside0 (Kd.R (Kd.int .i64) 3 wc w.heap.size (fun k_ => some k_ ≠ ((.slice (some ⟨go13, 0, none⟩) x9_1.length co13) : Value).ownBlock) u10 x10_1) ∧ Aside0 (Below w.heap.size w wc))
                    case first =>
                      have H := HC20.out
                      clear HC20
                      by_cases c21 : x11_1 < (x10_1.length : Int)
                      · rw [if_pos c21] at H
                        have c21b0 : decide (x11_1 < (x10_1.length : Int)) = true := decide_eq_true c21
                        clear c21
                        (first | rw [c21b0] | (simp only [i64_w, i32_w]; rw [c21b0]) | skip)
                        obtain ⟨ji22, hji22⟩ : ∃ j_ : Int, (wrap64 ((rd l0 (ji5)) + a1)) = j_ := ⟨_, rfl⟩
                        replace H : (if 0 ≤ (ji22) then (if (ji22) < (x9_1.length : Int) then (pomaderef05_Both.j1 k1 l0 a1 (rd l0 (ji5)) ji8 x9_1 x10_1 x11_1 ((rd x9_1 (ji22)) == 0)) else (none)) else (none)) = some (r1, r2) := by first | (rw [hji22] at H; exact H) | (simp only [hji22] at H ⊢; exact H)
                        have hji22w : (IntKind.i64.wrap ((rd l0 (ji5)) + a1)) = ji22 := (i64_w _).trans hji22
                        by_cases c23 : 0 ≤ (ji22)
                        · rw [if_pos c23] at H
                          have c23b0 : decide (0 ≤ (ji22)) = true := decide_eq_true c23
                          clear c23
                          by_cases c24 : (ji22) < (x9_1.length : Int)
                          · rw [if_pos c24] at H
                            have c24b0 : decide ((ji22) < (x9_1.length : Int)) = true := decide_eq_true c24
                            clear c24
                            have H' := Aside0.mk H
                            clear H
                            obtain ⟨Ao25, co25, eo25⟩ := Kd.R_slice HO_10.out
                            subst eo25
                            have p453 : 0 ≤ ((ji22) : Int) := of_decide_eq_true (by first | (with_reducible assumption) | assumption)
                            have q453 : (ji22) < (x9_1.length : Int) := of_decide_eq_true (by first | (with_reducible assumption) | assumption)
                            obtain ⟨ad453, e453, hx453_0⟩ := Kd.at_int (Kd.R_reads' HO_9.out).2.2 (ji22) p453 q453
                            obtain rfl : (⟨go13, 0, none⟩ : Addr) = ad453 := (by injection e453)
                            (first | simp only [add_plain] at hx453_0 | simp only [add_at] at hx453_0 | simp only [Addr.add, Nat.zero_add] at hx453_0 | skip)
                            replace p453 := eq_true p453
                            replace q453 := eq_true q453
                            go_wp2
                            go_meet
                            case rel => exact ⟨_, (((rd x9_1 (ji22)) == 0)), (by first | rfl | (simp; done) | (simp only [← hji22] <;> (first | rfl | simp)) | (simp [*]; done)), H', ⟨by have := HK1.out; first | omega | exact Nat.le_refl _⟩, ⟨by (try simp only [hl9_1]); (with_reducible repeat (first | apply Kd.R_alloc | apply Kd.R_drewN | apply Kd.R_drew)); exact HO_9.out⟩, ⟨by (try simp only [hl9_1]); (with_reducible repeat (first | apply Kd.R_alloc | apply Kd.R_drewN | apply Kd.R_drew)); exact HO_10.out⟩, ⟨by repeat (first | (with_reducible first | exact HB.out | apply below_alloc | apply pw_below_drewN | apply below_drew1) | exact HB.out)⟩⟩
                          · rw [if_neg c24] at H
                            exact absurd H (by simp)
                        · rw [if_neg c23] at H
                          exact absurd H (by simp)
                      · rw [if_neg c21] at H
                        have c21b0 : decide (x11_1 < (x10_1.length : Int)) = false := decide_eq_false c21
                        clear c21
                        (first | rw [c21b0] | (simp only [i64_w, i32_w]; rw [c21b0]) | skip)
                        have H' := Aside0.mk H
                        clear H
                        obtain ⟨Ao26, co26, eo26⟩ := Kd.R_slice HO_10.out
                        subst eo26
                        go_wp2
                        go_meet
                        case rel => exact ⟨_, (false), (by first | rfl | (simp; done) | (simp [*]; done)), H', ⟨by have := HK1.out; first | omega | exact Nat.le_refl _⟩, ⟨by (try simp only [hl9_1]); (with_reducible repeat (first | apply Kd.R_alloc | apply Kd.R_drewN | apply Kd.R_drew)); exact HO_9.out⟩, ⟨by (try simp only [hl9_1]); (with_reducible repeat (first | apply Kd.R_alloc | apply Kd.R_drewN | apply Kd.R_drew)); exact HO_10.out⟩, ⟨by repeat (first | (with_reducible first | exact HB.out | apply below_alloc | apply pw_below_drewN | apply below_drew1) | exact HB.out)⟩⟩
                    case rest =>
                      clear HC20
                      try clear c1
                      try clear p1
                      try clear q1
                      try clear hx1
                      try clear c2
                      try clear p2
                      try clear c3
                      try clear c4
                      try clear c4b0
                      try clear c4b1
                      try clear p4
                      try clear q4
                      try clear hx4
                      try clear c6
                      try clear c6b0
                      try clear p6
                      try clear c7
                      try clear c7b0
                      try clear c9
                      try clear c9b0
                      try clear c9b1
                      try clear c10
                      try clear c10b0
                      try clear c10b1
                      try clear c11
                      try clear c11b0
                      try clear c12
                      try clear c12b0
                      try clear p13
                      try clear q13
                      try clear hx13
                      try clear hf13
                      try clear c21
                      try clear c21b0
                      try clear c23
                      try clear c23b0
                      try clear c24
                      try clear c24b0
                      try clear hx13_0
                      try clear hx445_0
                      try clear hx453_0
                      try clear p1
                      try clear p13
                      try clear p2
                      try clear p4
                      try clear p445
                      try clear p453
                      try clear p6
                      try clear q1
                      try clear q13
                      try clear q4
                      try clear q445
                      try clear q453
                      obtain ⟨kq, x52_19, rfl, HA, HJ19, HO_9, HO_10, HB⟩ := hcut
                      cases kq with
                      | zero => exact absurd HA.out (by simp [pomaderef05_Both.j1])
                      | succ kj19 =>
                        have H := HA.out
                        clear HA
                        simp only [pomaderef05_Both.j1] at H
                        by_cases c27 : x52_19 = true
                        · subst c27
                          have H1 : (if 0 ≤ x11_1 then (if x11_1 < (x10_1.length : Int) then (pomaderef05_Both.l1 kj19 l0 a1 (rd l0 (ji5)) ji8 x9_1 x10_1 x11_1 (rd x10_1 x11_1) 0) else (none)) else (none)) = some (r1, r2) := by rw [if_pos rfl] at H; exact H
                          clear H
                          have H := H1
                          clear H1
                          by_cases c28 : 0 ≤ x11_1
                          · rw [if_pos c28] at H
                            have c28b0 : decide (0 ≤ x11_1) = true := decide_eq_true c28
                            clear c28
                            by_cases c29 : x11_1 < (x10_1.length : Int)
                            · rw [if_pos c29] at H
                              have c29b0 : decide (x11_1 < (x10_1.length : Int)) = true := decide_eq_true c29
                              clear c29
                              have H' := Aside0.mk H
                              clear H
                              obtain ⟨Ao30, co30, eo30⟩ := Kd.R_slice HO_10.out
                              subst eo30
                              have p455 : 0 ≤ (x11_1 : Int) := of_decide_eq_true (by first | (with_reducible assumption) | assumption)
                              have q455 : x11_1 < (x10_1.length : Int) := of_decide_eq_true (by first | (with_reducible assumption) | assumption)
                              obtain ⟨ad455, e455, hx455_0⟩ := Kd.at_int (Kd.R_reads' HO_10.out).2.2 x11_1 p455 q455
                              cases e455
                              replace p455 := eq_true p455
                              replace q455 := eq_true q455
                              go_wp2
                              go_loopg [10, 13] kj19 (fun kq v10 v13 w' => ∃ (x9_3 : List Int) (x10_3 : List Int) (x13_3 : Int), v13 = .int .i64 x13_3 ∧ Aside0 (pomaderef05_Both.l1 kq l0 a1 (rd l0 (ji5)) ji8 x9_3 x10_3 x11_1 (rd x10_1 x11_1) x13_3 = some (r1, r2)) ∧ Aside0 (kq ≤ kj19) ∧ Aside0 (Kd.R (Kd.int .i64) 3 w' w.heap.size (fun k_ => some k_ ≠ (v10 : Value).ownBlock) (.slice (some ⟨go13, 0, none⟩) x9_1.length co13) x9_3) ∧ Aside0 (Kd.R (Kd.int .i64) 3 w' w.heap.size (fun k_ => some k_ ≠ ((.slice (some ⟨go13, 0, none⟩) x9_1.length co13) : Value).ownBlock) v10 x10_3) ∧ Aside0 (Below w.heap.size w w'))
                              case atStart => exact ⟨(x9_1), (x10_1), (0), (by first | rfl | (simp; done) | (simp [*]; done)), H', ⟨Nat.le_refl _⟩, ⟨by (try simp only [hl9_1]); (with_reducible repeat (first | apply Kd.R_alloc | apply Kd.R_drewN | apply Kd.R_drew)); exact HO_9.out⟩, ⟨by (try simp only [hl9_1]); (with_reducible repeat (first | apply Kd.R_alloc | apply Kd.R_drewN | apply Kd.R_drew)); exact HO_10.out⟩, ⟨by repeat (first | (with_reducible first | exact HB.out | apply below_alloc | apply pw_below_drewN | apply below_drew1) | exact HB.out)⟩⟩
                              case round =>
                                clear H'
                                try clear c1
                                try clear p1
                                try clear q1
                                try clear hx1
                                try clear c2
                                try clear p2
                                try clear c3
                                try clear c4
                                try clear c4b0
                                try clear c4b1
                                try clear p4
                                try clear q4
                                try clear hx4
                                try clear c6
                                try clear c6b0
                                try clear p6
                                try clear c7
                                try clear c7b0
                                try clear c9
                                try clear c9b0
                                try clear c9b1
                                try clear c10
                                try clear c10b0
                                try clear c10b1
                                try clear c11
                                try clear c11b0
                                try clear c12
                                try clear c12b0
                                try clear p13
                                try clear q13
                                try clear hx13
                                try clear hf13
                                try clear c21
                                try clear c21b0
                                try clear c23
                                try clear c23b0
                                try clear c24
                                try clear c24b0
                                try clear c27
                                try clear c28
                                try clear c28b0
                                try clear c29
                                try clear c29b0
                                try clear hx13_0
                                try clear hx445_0
                                try clear hx453_0
                                try clear hx455_0
                                try clear p1
                                try clear p13
                                try clear p2
                                try clear p4
                                try clear p445
                                try clear p453
                                try clear p455
                                try clear p6
                                try clear q1
                                try clear q13
                                try clear q4
                                try clear q445
                                try clear q453
                                try clear q455
                                obtain ⟨x9_3, x10_3, x13_3, rfl, HA, HK3, HO_9, HO_10, HB⟩ := hrel
                                have hl9_3 := (Kd.R_reads' HO_9.out).1
                                rw [hl9_3] at HO_9
                                (try simp only [hl9_3])
                                (try simp only [hl9_3] at HO_10)
                                cases gk with
                                | zero => exact absurd HA.out (by simp [pomaderef05_Both.l1])
                                | succ k3 =>
                                  have H := HA.out
                                  clear HA
                                  simp only [pomaderef05_Both.l1] at H
                                  by_cases c31 : x13_3 < (l0.length : Int)
                                  · rw [if_pos c31] at H
                                    have c31b0 : decide (x13_3 < (l0.length : Int)) = true := decide_eq_true c31
                                    clear c31
                                    have H' := Aside0.mk H
                                    clear H
                                    go_wp2
                                    go_loopg [10, 14] k3 (fun kq v10 v14 w' => ∃ (x9_4 : List Int) (x10_4 : List Int) (x14_4 : Int), v14 = .int .i64 x14_4 ∧ Aside0 (pomaderef05_Both.l2 kq l0 a1 (rd l0 (ji5)) ji8 x9_4 x10_4 x11_1 (rd x10_1 x11_1) x13_3 x14_4 = some (r1, r2)) ∧ Aside0 (kq ≤ k3) ∧ Aside0 (Kd.R (Kd.int .i64) 3 w' w.heap.size (fun k_ => some k_ ≠ (v10 : Value).ownBlock) (.slice (some ⟨go13, 0, none⟩) x9_3.length co13) x9_4) ∧ Aside0 (Kd.R (Kd.int .i64) 3 w' w.heap.size (fun k_ => some k_ ≠ ((.slice (some ⟨go13, 0, none⟩) x9_3.length co13) : Value).ownBlock) v10 x10_4) ∧ Aside0 (Below w.heap.size w w'))
                                    case atStart => exact ⟨(x9_3), (x10_3), ((-1)), (by first | rfl | (simp; done) | (simp [*]; done)), H', ⟨Nat.le_refl _⟩, ⟨by (try simp only [hl9_1]); (try simp only [hl9_3]); (with_reducible repeat (first | apply Kd.R_alloc | apply Kd.R_drewN | apply Kd.R_drew)); exact HO_9.out⟩, ⟨by (try simp only [hl9_1]); (try simp only [hl9_3]); (with_reducible repeat (first | apply Kd.R_alloc | apply Kd.R_drewN | apply Kd.R_drew)); exact HO_10.out⟩, ⟨by repeat (first | (with_reducible first | exact HB.out | apply below_alloc | apply pw_below_drewN | apply below_drew1) | exact HB.out)⟩⟩
                                    case round =>
                                      clear H'
                                      try clear c1
                                      try clear p1
                                      try clear q1
                                      try clear hx1
                                      try clear c2
                                      try clear p2
                                      try clear c3
                                      try clear c4
                                      try clear c4b0
                                      try clear c4b1
                                      try clear p4
                                      try clear q4
                                      try clear hx4
                                      try clear c6
                                      try clear c6b0
                                      try clear p6
                                      try clear c7
                                      try clear c7b0
                                      try clear c9
                                      try clear c9b0
                                      try clear c9b1
                                      try clear c10
                                      try clear c10b0
                                      try clear c10b1
                                      try clear c11
                                      try clear c11b0
                                      try clear c12
                                      try clear c12b0
                                      try clear p13
                                      try clear q13
                                      try clear hx13
                                      try clear hf13
                                      try clear c21
                                      try clear c21b0
                                      try clear c23
                                      try clear c23b0
                                      try clear c24
                                      try clear c24b0
                                      try clear c27
                                      try clear c28
                                      try clear c28b0
                                      try clear c29
                                      try clear c29b0
                                      try clear c31
                                      try clear c31b0
                                      try clear hx13_0
                                      try clear hx445_0
                                      try clear hx453_0
                                      try clear hx455_0
                                      try clear p1
                                      try clear p13
                                      try clear p2
                                      try clear p4
                                      try clear p445
                                      try clear p453
                                      try clear p455
                                      try clear p6
                                      try clear q1
                                      try clear q13
                                      try clear q4
                                      try clear q445
                                      try clear q453
                                      try clear q455
                                      obtain ⟨x9_4, x10_4, x14_4, rfl, HA, HK4, HO_9, HO_10, HB⟩ := hrel
                                      have hl9_4 := (Kd.R_reads' HO_9.out).1
                                      rw [hl9_4] at HO_9
                                      (try simp only [hl9_4])
                                      (try simp only [hl9_4] at HO_10)
                                      cases gk with
                                      | zero => exact absurd HA.out (by simp [pomaderef05_Both.l2])
                                      | succ k4 =>
                                        have H := HA.out
                                        clear HA
                                        simp only [pomaderef05_Both.l2] at H
                                        by_cases c32 : x14_4 ≤ 1
                                        · rw [if_pos c32] at H
                                          have c32b0 : decide (x14_4 ≤ 1) = true := decide_eq_true c32
                                          clear c32
                                          by_cases c33 : 0 ≤ x13_3
                                          · rw [if_pos c33] at H
                                            have c33b0 : decide (0 ≤ x13_3) = true := decide_eq_true c33
                                            clear c33
                                            by_cases c34 : x13_3 < (l0.length : Int)
                                            · rw [if_pos c34] at H
                                              have c34b0 : decide (x13_3 < (l0.length : Int)) = true := decide_eq_true c34
                                              clear c34
                                              by_cases c35 : (wrap64 ((rd x10_1 x11_1) + (wrap64 (x14_4 * (rd l0 x13_3))))) ≥ 0
                                              · rw [if_pos c35] at H
                                                have c35b0 : decide (0 ≤ (wrap64 ((rd x10_1 x11_1) + (wrap64 (x14_4 * (rd l0 x13_3)))))) = true := decide_eq_true c35
                                                clear c35
                                                by_cases c36 : (wrap64 ((rd x10_1 x11_1) + (wrap64 (x14_4 * (rd l0 x13_3))))) < ji8
                                                · rw [if_pos c36] at H
                                                  have c36b0 : decide ((wrap64 ((rd x10_1 x11_1) + (wrap64 (x14_4 * (rd l0 x13_3))))) < ji8) = true := decide_eq_true c36
                                                  clear c36
                                                  obtain ⟨ji37, hji37⟩ : ∃ j_ : Int, (wrap64 ((rd x10_1 x11_1) + (wrap64 (x14_4 * (rd l0 x13_3))))) = j_ := ⟨_, rfl⟩
                                                  replace H : (if 0 ≤ (ji37) then (if (ji37) < (x9_4.length : Int) then (if (rd x9_4 (ji37)) = 0 then (if 0 ≤ (rd x10_1 x11_1) then (if (rd x10_1 x11_1) < (x9_4.length : Int) then (if x10_4.length < 17592186044416 then (pomaderef05_Both.l2 k4 l0 a1 (rd l0 (ji5)) ji8 (x9_4.set ((ji37) : Int).toNat (wrap64 ((rd x9_4 (rd x10_1 x11_1)) + 1))) (x10_4 ++ [ji37]) x11_1 (rd x10_1 x11_1) x13_3 (wrap64 (x14_4 + 2))) else (none)) else (none)) else (none)) else (pomaderef05_Both.l2 k4 l0 a1 (rd l0 (ji5)) ji8 x9_4 x10_4 x11_1 (rd x10_1 x11_1) x13_3 (wrap64 (x14_4 + 2)))) else (none)) else (none)) = some (r1, r2) := by first | (rw [hji37] at H; exact H) | (simp only [hji37] at H ⊢; exact H)
                                                  (try rw [hji37] at c35b0)
                                                  (try rw [hji37] at c36b0)
                                                  have hji37w : (IntKind.i64.wrap ((rd x10_1 x11_1) + (wrap64 (x14_4 * (rd l0 x13_3))))) = ji37 := (i64_w _).trans hji37
                                                  by_cases c38 : 0 ≤ (ji37)
                                                  · rw [if_pos c38] at H
                                                    have c38b0 : decide (0 ≤ (ji37)) = true := decide_eq_true c38
                                                    clear c38
                                                    by_cases c39 : (ji37) < (x9_4.length : Int)
                                                    · rw [if_pos c39] at H
                                                      have c39b0 : decide ((ji37) < (x9_4.length : Int)) = true := decide_eq_true c39
                                                      clear c39
                                                      by_cases c40 : (rd x9_4 (ji37)) = 0
                                                      · rw [if_pos c40] at H
                                                        have c40b0 : ((rd x9_4 (ji37)) == 0) = true := beq_iff_eq.mpr c40
                                                        have c40b1 : ((rd x9_4 (ji37)) != 0) = false := bne_eq_false_iff_eq.mpr c40
                                                        clear c40
                                                        by_cases c41 : 0 ≤ (rd x10_1 x11_1)
                                                        · rw [if_pos c41] at H
                                                          have c41b0 : decide (0 ≤ (rd x10_1 x11_1)) = true := decide_eq_true c41
                                                          clear c41
                                                          by_cases c42 : (rd x10_1 x11_1) < (x9_4.length : Int)
                                                          · rw [if_pos c42] at H
                                                            have c42b0 : decide ((rd x10_1 x11_1) < (x9_4.length : Int)) = true := decide_eq_true c42
                                                            clear c42
                                                            obtain ⟨y459, hy459⟩ : ∃ y_ : List Int, y_ = (x9_4.set ((ji37) : Int).toNat (wrap64 ((rd x9_4 (rd x10_1 x11_1)) + 1))) := ⟨_, rfl⟩
                                                            replace H : (if x10_4.length < 17592186044416 then (pomaderef05_Both.l2 k4 l0 a1 (rd l0 (ji5)) ji8 y459 (x10_4 ++ [ji37]) x11_1 (rd x10_1 x11_1) x13_3 (wrap64 (x14_4 + 2))) else (none)) = some (r1, r2) := by first | (rw [hy459]; with_reducible exact H) | (have H2_ := (Option.bind_some _ _).symm.trans H; rw [hy459]; with_reducible exact H2_) | (have H2_ := (Option.bind_some _ _).symm.trans H; with_reducible exact H2_) | with_reducible exact H | (rw [hy459]; exact H) | exact H
                                                            have Ny459 := Aside0.mk hy459
                                                            clear hy459
                                                            by_cases c44 : x10_4.length < 17592186044416
                                                            · rw [if_pos c44] at H
                                                              have LMc44 := Aside0.mk c44
                                                              clear c44
                                                              obtain ⟨y460, hy460⟩ : ∃ y_ : List Int, y_ = (x10_4 ++ [ji37]) := ⟨_, rfl⟩
                                                              replace H : (pomaderef05_Both.l2 k4 l0 a1 (rd l0 (ji5)) ji8 y459 y460 x11_1 (rd x10_1 x11_1) x13_3 (wrap64 (x14_4 + 2))) = some (r1, r2) := by first | (rw [hy460]; with_reducible exact H) | (have H2_ := (Option.bind_some _ _).symm.trans H; rw [hy460]; with_reducible exact H2_) | (have H2_ := (Option.bind_some _ _).symm.trans H; with_reducible exact H2_) | with_reducible exact H | (rw [hy460]; exact H) | exact H
                                                              have Ny460 := Aside0.mk hy460
                                                              clear hy460
                                                              have H' := Aside0.mk H
                                                              clear H
                                                              have p456 : 0 ≤ (x13_3 : Int) := of_decide_eq_true (by first | (with_reducible assumption) | assumption)
                                                              have q456 : x13_3 < (l0.length : Int) := of_decide_eq_true (by first | (with_reducible assumption) | assumption)
                                                              obtain ⟨ad456, e456, hx456_0⟩ := Kd.at_int HR0.out x13_3 p456 q456
                                                              obtain rfl : ad445 = ad456 := (by injection e456)
                                                              replace hx456_0 := (HB.out.cell (World.block_lt_of_cell? w _ hx456_0)).trans hx456_0
                                                              replace p456 := eq_true p456
                                                              replace q456 := eq_true q456
                                                              have p457 : 0 ≤ ((ji37) : Int) := of_decide_eq_true (by first | (with_reducible assumption) | assumption)
                                                              have q457 : (ji37) < (x9_4.length : Int) := of_decide_eq_true (by first | (with_reducible assumption) | assumption)
                                                              obtain ⟨ad457, e457, hx457_0⟩ := Kd.at_int (Kd.R_reads' HO_9.out).2.2 (ji37) p457 q457
                                                              obtain rfl : (⟨go13, 0, none⟩ : Addr) = ad457 := (by injection e457)
                                                              (first | simp only [add_plain] at hx457_0 | simp only [add_at] at hx457_0 | simp only [Addr.add, Nat.zero_add] at hx457_0 | skip)
                                                              replace p457 := eq_true p457
                                                              replace q457 := eq_true q457
                                                              have p458 : 0 ≤ ((rd x10_1 x11_1) : Int) := of_decide_eq_true (by first | (with_reducible assumption) | assumption)
                                                              have q458 : (rd x10_1 x11_1) < (x9_4.length : Int) := of_decide_eq_true (by first | (with_reducible assumption) | assumption)
                                                              obtain ⟨ad458, e458, hx458_0⟩ := Kd.at_int (Kd.R_reads' HO_9.out).2.2 (rd x10_1 x11_1) p458 q458
                                                              obtain rfl : (⟨go13, 0, none⟩ : Addr) = ad458 := (by injection e458)
                                                              (first | simp only [add_plain] at hx458_0 | simp only [add_at] at hx458_0 | simp only [Addr.add, Nat.zero_add] at hx458_0 | skip)
                                                              replace p458 := eq_true p458
                                                              replace q458 := eq_true q458
                                                              have p43 : 0 ≤ ((ji37) : Int) := of_decide_eq_true (by first | (with_reducible assumption) | assumption)
                                                              have q43 : ((ji37) : Int) < ((x9_4.length : Int) : Int) := of_decide_eq_true (by first | (with_reducible assumption) | assumption)
                                                              obtain ⟨hx43_0, hf43_0⟩ := Kd.R_celln 0 HO_9.out ((ji37) : Int) p43 q43
                                                              replace p43 := eq_true p43
                                                              replace q43 := eq_true q43
                                                              have HP45 := Kd.R_putg HO_9.out ((ji37) : Int) (wrap64 ((rd x9_4 (rd x10_1 x11_1)) + 1))
                                                              go_wp2_with (first | ((with_reducible refine gate_store (t := 3) (p := 98) rfl ?_); refine store_event (t := 3) (p := 98) (v := ?vo_w46) (w1 := (wr.setCell ⟨go13, ((ji37) : Int).toNat, none⟩ (.int .i64 (wrap64 ((rd x9_4 (rd x10_1 x11_1)) + 1))))) ?hg ?ho ?hn ?hr ?_; (case ho => rfl); (case hg => rfl); (case hn => rfl); (case hr => first | (go_simp; done) | (go_simp; rfl)); intro w46 hw; have hg : wr.grownBy w46 (some go13) := (by rw [hw]; exact HP45.2); have hp_ : Kd.R (Kd.int .i64) 3 w46 w.heap.size (fun k_ => some k_ ≠ (u10 : Value).ownBlock) (.slice (some ⟨go13, 0, none⟩) x9_4.length co13) y459 := (by rw [hw, Ny459.out]; exact HP45.1); clear HP45; have n0_ := Aside0.mk (hp_); have n1_ := Aside0.mk (Kd.R_after (v := (.slice (some ⟨go13, 0, none⟩) x9_4.length co13)) (v1 := (.slice (some ⟨go13, 0, none⟩) x9_4.length co13)) (ok := (fun _ => True)) (by (with_reducible repeat (first | apply Kd.R_alloc | apply Kd.R_drewN | apply Kd.R_drew)); exact Kd.R_mono HO_10.out (fun _ hk => ⟨trivial, hk⟩)) hg (.inl rfl)); have n2_ := Aside0.mk ((by rw [hw]; exact below_set (HB.out) GB13.out : Below w.heap.size w w46)); clear HO_9; clear HO_10; clear HB; have HO_9 := n0_; have HO_10 := n1_; have HB := n2_; clear n0_ n1_ n2_; clear hg hw hp_) | ((with_reducible refine gate_builtin (b := .append) (xs := #[.tmp 99, .tmp 101]) rfl ?_); at_builtin; refine Kd.R_append (Kd.int .i64) (w0 := w) w.heap.size rfl (.tmp 99) (.tmp 101) 22 3 (.int .i64 0) 8 rfl Try.underlying22 info3 rfl (by decide) (by omega) u10 x10_4 ji37 [.int .i64 ji37] (fun k_ => some k_ ≠ (.slice (some ⟨go13, 0, none⟩) x9_4.length co13 : Value).ownBlock) (fun _ => False) rfl rfl ?aP (fun _ hk => hk.elim) ?aF ?aO ?aB ?aS ?aL ?_; (case aP => exact rfl); (case aB => exact (by repeat (first | (with_reducible first | exact HB.out | apply below_alloc | apply pw_below_drewN | apply below_drew1) | exact HB.out))); (case aF => exact (fun k_ hk => Kd.fresh' (Kd.R_lt (by (with_reducible repeat (first | apply Kd.R_alloc | apply Kd.R_drewN | apply Kd.R_drew)); exact HO_9.out)) k_ hk)); (case aO => exact (by (with_reducible repeat (first | apply Kd.R_alloc | apply Kd.R_drewN | apply Kd.R_drew)); exact Kd.R_mono HO_10.out (fun _ hk => hk.2))); (case aS => exact (below_size (by repeat (first | (with_reducible first | exact HB.out | apply below_alloc | apply pw_below_drewN | apply below_drew1) | exact HB.out)))); (case aL => have := LMc44.out; omega); intro v461 w47 ho hb hg hat; rw [← Ny460.out] at ho; have n0_ := Aside0.mk (Kd.R_after (ok := (fun _ => True)) (by (with_reducible repeat (first | apply Kd.R_alloc | apply Kd.R_drewN | apply Kd.R_drew)); exact Kd.R_mono HO_9.out (fun _ hk => ⟨trivial, hk⟩)) hg hat); have n1_ := Aside0.mk (hb); have n2_ := Aside0.mk (ho); clear HO_9; clear HB; clear HO_10; have HO_9 := n0_; have HB := n1_; have HO462 := n2_; clear n0_ n1_ n2_; clear ho hb hg hat))
                                                              (try simp only [← hl9_4])
                                                              go_roundg k4
                                                              case measure => have := HK1.out; have := HJ19.out; have := HK3.out; have := HK4.out; omega
                                                              case rel => exact ⟨(y459), (y460), (wrap64 (x14_4 + 2)), (by first | rfl | (simp; done) | (simp [*]; done)), H', ⟨by have := HK1.out; have := HJ19.out; have := HK3.out; have := HK4.out; omega⟩, ⟨by (try simp only [hl9_1]); (try simp only [hl9_3]); (try simp only [hl9_4]); (with_reducible repeat (first | apply Kd.R_alloc | apply Kd.R_drewN | apply Kd.R_drew)); exact Kd.R_mono HO_9.out (fun _ hk => hk.2)⟩, ⟨by (try simp only [hl9_1]); (try simp only [hl9_3]); (try simp only [hl9_4]); (with_reducible repeat (first | apply Kd.R_alloc | apply Kd.R_drewN | apply Kd.R_drew)); exact HO462.out⟩, ⟨by repeat (first | (with_reducible first | exact HB.out | apply below_alloc | apply pw_below_drewN | apply below_drew1) | exact HB.out)⟩⟩
                                                            · rw [if_neg c44] at H
                                                              exact absurd H (by simp)
                                                          · rw [if_neg c42] at H
                                                            exact absurd H (by simp)
                                                        · rw [if_neg c41] at H
                                                          exact absurd H (by simp)
                                                      · rw [if_neg c40] at H
                                                        have c40b0 : ((rd x9_4 (ji37)) == 0) = false := beq_eq_false_iff_ne.mpr c40
                                                        have c40b1 : ((rd x9_4 (ji37)) != 0) = true := bne_iff_ne.mpr c40
                                                        have H' := Aside0.mk H
                                                        clear H
                                                        have p456 : 0 ≤ (x13_3 : Int) := of_decide_eq_true (by first | (with_reducible assumption) | assumption)
                                                        have q456 : x13_3 < (l0.length : Int) := of_decide_eq_true (by first | (with_reducible assumption) | assumption)
                                                        obtain ⟨ad456, e456, hx456_0⟩ := Kd.at_int HR0.out x13_3 p456 q456
                                                        obtain rfl : ad445 = ad456 := (by injection e456)
                                                        replace hx456_0 := (HB.out.cell (World.block_lt_of_cell? w _ hx456_0)).trans hx456_0
                                                        replace p456 := eq_true p456
                                                        replace q456 := eq_true q456
                                                        have p457 : 0 ≤ ((ji37) : Int) := of_decide_eq_true (by first | (with_reducible assumption) | assumption)
                                                        have q457 : (ji37) < (x9_4.length : Int) := of_decide_eq_true (by first | (with_reducible assumption) | assumption)
                                                        obtain ⟨ad457, e457, hx457_0⟩ := Kd.at_int (Kd.R_reads' HO_9.out).2.2 (ji37) p457 q457
                                                        obtain rfl : (⟨go13, 0, none⟩ : Addr) = ad457 := (by injection e457)
                                                        (first | simp only [add_plain] at hx457_0 | simp only [add_at] at hx457_0 | simp only [Addr.add, Nat.zero_add] at hx457_0 | skip)
                                                        replace p457 := eq_true p457
                                                        replace q457 := eq_true q457
                                                        go_wp2
                                                        (try simp only [← hl9_4])
                                                        go_roundg k4
                                                        case measure => have := HK1.out; have := HJ19.out; have := HK3.out; have := HK4.out; omega
                                                        case rel => exact ⟨(x9_4), (x10_4), (wrap64 (x14_4 + 2)), (by first | rfl | (simp; done) | (simp [*]; done)), H', ⟨by have := HK1.out; have := HJ19.out; have := HK3.out; have := HK4.out; omega⟩, ⟨by (try simp only [hl9_1]); (try simp only [hl9_3]); (try simp only [hl9_4]); (with_reducible repeat (first | apply Kd.R_alloc | apply Kd.R_drewN | apply Kd.R_drew)); exact HO_9.out⟩, ⟨by (try simp only [hl9_1]); (try simp only [hl9_3]); (try simp only [hl9_4]); (with_reducible repeat (first | apply Kd.R_alloc | apply Kd.R_drewN | apply Kd.R_drew)); exact HO_10.out⟩, ⟨by repeat (first | (with_reducible first | exact HB.out | apply below_alloc | apply pw_below_drewN | apply below_drew1) | exact HB.out)⟩⟩
                                                    · rw [if_neg c39] at H
                                                      exact absurd H (by simp)
                                                  · rw [if_neg c38] at H
                                                    exact absurd H (by simp)
                                                · rw [if_neg c36] at H
                                                  have c36b0 : decide ((wrap64 ((rd x10_1 x11_1) + (wrap64 (x14_4 * (rd l0 x13_3))))) < ji8) = false := decide_eq_false c36
                                                  clear c36
                                                  have H' := Aside0.mk H
                                                  clear H
                                                  have p456 : 0 ≤ (x13_3 : Int) := of_decide_eq_true (by first | (with_reducible assumption) | assumption)
                                                  have q456 : x13_3 < (l0.length : Int) := of_decide_eq_true (by first | (with_reducible assumption) | assumption)
                                                  obtain ⟨ad456, e456, hx456_0⟩ := Kd.at_int HR0.out x13_3 p456 q456
                                                  obtain rfl : ad445 = ad456 := (by injection e456)
                                                  replace hx456_0 := (HB.out.cell (World.block_lt_of_cell? w _ hx456_0)).trans hx456_0
                                                  replace p456 := eq_true p456
                                                  replace q456 := eq_true q456
                                                  go_wp2
                                                  (try simp only [← hl9_4])
                                                  go_roundg k4
                                                  case measure => have := HK1.out; have := HJ19.out; have := HK3.out; have := HK4.out; omega
                                                  case rel => exact ⟨(x9_4), (x10_4), (wrap64 (x14_4 + 2)), (by first | rfl | (simp; done) | (simp [*]; done)), H', ⟨by have := HK1.out; have := HJ19.out; have := HK3.out; have := HK4.out; omega⟩, ⟨by (try simp only [hl9_1]); (try simp only [hl9_3]); (try simp only [hl9_4]); (with_reducible repeat (first | apply Kd.R_alloc | apply Kd.R_drewN | apply Kd.R_drew)); exact HO_9.out⟩, ⟨by (try simp only [hl9_1]); (try simp only [hl9_3]); (try simp only [hl9_4]); (with_reducible repeat (first | apply Kd.R_alloc | apply Kd.R_drewN | apply Kd.R_drew)); exact HO_10.out⟩, ⟨by repeat (first | (with_reducible first | exact HB.out | apply below_alloc | apply pw_below_drewN | apply below_drew1) | exact HB.out)⟩⟩
                                              · rw [if_neg c35] at H
                                                have c35b0 : decide (0 ≤ (wrap64 ((rd x10_1 x11_1) + (wrap64 (x14_4 * (rd l0 x13_3)))))) = false := decide_eq_false c35
                                                clear c35
                                                have H' := Aside0.mk H
                                                clear H
                                                have p456 : 0 ≤ (x13_3 : Int) := of_decide_eq_true (by first | (with_reducible assumption) | assumption)
                                                have q456 : x13_3 < (l0.length : Int) := of_decide_eq_true (by first | (with_reducible assumption) | assumption)
                                                obtain ⟨ad456, e456, hx456_0⟩ := Kd.at_int HR0.out x13_3 p456 q456
                                                obtain rfl : ad445 = ad456 := (by injection e456)
                                                replace hx456_0 := (HB.out.cell (World.block_lt_of_cell? w _ hx456_0)).trans hx456_0
                                                replace p456 := eq_true p456
                                                replace q456 := eq_true q456
                                                go_wp2
                                                (try simp only [← hl9_4])
                                                go_roundg k4
                                                case measure => have := HK1.out; have := HJ19.out; have := HK3.out; have := HK4.out; omega
                                                case rel => exact ⟨(x9_4), (x10_4), (wrap64 (x14_4 + 2)), (by first | rfl | (simp; done) | (simp [*]; done)), H', ⟨by have := HK1.out; have := HJ19.out; have := HK3.out; have := HK4.out; omega⟩, ⟨by (try simp only [hl9_1]); (try simp only [hl9_3]); (try simp only [hl9_4]); (with_reducible repeat (first | apply Kd.R_alloc | apply Kd.R_drewN | apply Kd.R_drew)); exact HO_9.out⟩, ⟨by (try simp only [hl9_1]); (try simp only [hl9_3]); (try simp only [hl9_4]); (with_reducible repeat (first | apply Kd.R_alloc | apply Kd.R_drewN | apply Kd.R_drew)); exact HO_10.out⟩, ⟨by repeat (first | (with_reducible first | exact HB.out | apply below_alloc | apply pw_below_drewN | apply below_drew1) | exact HB.out)⟩⟩
                                            · rw [if_neg c34] at H
                                              exact absurd H (by simp)
                                          · rw [if_neg c33] at H
                                            exact absurd H (by simp)
                                        · rw [if_neg c32] at H
                                          have c32b0 : decide (x14_4 ≤ 1) = false := decide_eq_false c32
                                          clear c32
                                          have H' := Aside0.mk H
                                          clear H
                                          go_wp2
                                          (try simp only [← hl9_3, ← hl9_4])
                                          go_roundg k4
                                          case measure => have := HK1.out; have := HJ19.out; have := HK3.out; have := HK4.out; omega
                                          case rel => exact ⟨(x9_4), (x10_4), (wrap64 (x13_3 + 1)), (by first | rfl | (simp; done) | (simp [*]; done)), H', ⟨by have := HK1.out; have := HJ19.out; have := HK3.out; have := HK4.out; omega⟩, ⟨by (try simp only [hl9_1]); (try simp only [hl9_3]); (try simp only [hl9_4]); (with_reducible repeat (first | apply Kd.R_alloc | apply Kd.R_drewN | apply Kd.R_drew)); exact HO_9.out⟩, ⟨by (try simp only [hl9_1]); (try simp only [hl9_3]); (try simp only [hl9_4]); (with_reducible repeat (first | apply Kd.R_alloc | apply Kd.R_drewN | apply Kd.R_drew)); exact HO_10.out⟩, ⟨by repeat (first | (with_reducible first | exact HB.out | apply below_alloc | apply pw_below_drewN | apply below_drew1) | exact HB.out)⟩⟩
                                  · rw [if_neg c31] at H
                                    have c31b0 : decide (x13_3 < (l0.length : Int)) = false := decide_eq_false c31
                                    clear c31
                                    have H' := Aside0.mk H
                                    clear H
                                    go_wp2
                                    (try simp only [← hl9_1, ← hl9_3])
                                    go_roundg k3
                                    case measure => have := HK1.out; have := HJ19.out; have := HK3.out; omega
                                    case rel => exact ⟨(x9_3), (x10_3), (wrap64 (x11_1 + 1)), (by first | rfl | (simp; done) | (simp [*]; done)), H', ⟨by have := HK1.out; have := HJ19.out; have := HK3.out; omega⟩, ⟨by (try simp only [hl9_1]); (try simp only [hl9_3]); (with_reducible repeat (first | apply Kd.R_alloc | apply Kd.R_drewN | apply Kd.R_drew)); exact HO_9.out⟩, ⟨by (try simp only [hl9_1]); (try simp only [hl9_3]); (with_reducible repeat (first | apply Kd.R_alloc | apply Kd.R_drewN | apply Kd.R_drew)); exact HO_10.out⟩, ⟨by repeat (first | (with_reducible first | exact HB.out | apply below_alloc | apply pw_below_drewN | apply below_drew1) | exact HB.out)⟩⟩
                            · rw [if_neg c29] at H
                              exact absurd H (by simp)
                          · rw [if_neg c28] at H
                            exact absurd H (by simp)
                        · replace c27 := Bool.eq_false_iff.mpr c27
                          subst c27
                          have H1 : (if 0 ≤ (wrap64 ((rd l0 (ji5)) + a1)) then (if (wrap64 ((rd l0 (ji5)) + a1)) < (x9_1.length : Int) then (some (wrap64 ((rd x9_1 (wrap64 ((rd l0 (ji5)) + a1))) - 1), 0)) else (none)) else (none)) = some (r1, r2) := by rw [if_neg (show ¬ (false = true) by decide)] at H; exact H
                          clear H
                          have H := H1
                          clear H1
                          obtain ⟨ji48, hji48⟩ : ∃ j_ : Int, (wrap64 ((rd l0 (ji5)) + a1)) = j_ := ⟨_, rfl⟩
                          replace H : (if 0 ≤ (ji48) then (if (ji48) < (x9_1.length : Int) then (some (wrap64 ((rd x9_1 (ji48)) - 1), 0)) else (none)) else (none)) = some (r1, r2) := by first | (rw [hji48] at H; exact H) | (simp only [hji48] at H ⊢; exact H)
                          have hji48w : (IntKind.i64.wrap ((rd l0 (ji5)) + a1)) = ji48 := (i64_w _).trans hji48
                          by_cases c49 : 0 ≤ (ji48)
                          · rw [if_pos c49] at H
                            have c49b0 : decide (0 ≤ (ji48)) = true := decide_eq_true c49
                            clear c49
                            by_cases c50 : (ji48) < (x9_1.length : Int)
                            · rw [if_pos c50] at H
                              have c50b0 : decide ((ji48) < (x9_1.length : Int)) = true := decide_eq_true c50
                              clear c50
                              simp only [Option.some.injEq, Prod.mk.injEq] at H
                              obtain ⟨rfl, rfl⟩ := H
                              have p454 : 0 ≤ ((ji48) : Int) := of_decide_eq_true (by first | (with_reducible assumption) | assumption)
                              have q454 : (ji48) < (x9_1.length : Int) := of_decide_eq_true (by first | (with_reducible assumption) | assumption)
                              obtain ⟨ad454, e454, hx454_0⟩ := Kd.at_int (Kd.R_reads' HO_9.out).2.2 (ji48) p454 q454
                              obtain rfl : (⟨go13, 0, none⟩ : Addr) = ad454 := (by injection e454)
                              (first | simp only [add_plain] at hx454_0 | simp only [add_at] at hx454_0 | simp only [Addr.add, Nat.zero_add] at hx454_0 | skip)
                              replace p454 := eq_true p454
                              replace q454 := eq_true q454
                              go_wp2
                              go_ret2
                              exact ⟨by first | rfl | (simp [errW_none, errW_some] <;> rfl) | (simp only [← hji5, ← hji8, ← hji48]; first | rfl | (simp [errW_none, errW_some] <;> rfl)) | (simp [*, errW_none, errW_some] <;> rfl), by repeat (first | (with_reducible first | exact HB.out | apply below_alloc | apply pw_below_drewN | apply below_drew1) | exact HB.out)⟩
                            · rw [if_neg c50] at H
                              exact absurd H (by simp)
                          · rw [if_neg c49] at H
                            exact absurd H (by simp)
              · rw [if_neg c12] at H
                exact absurd H (by simp)
            · rw [if_neg c11] at H
              exact absurd H (by simp)
          · rw [if_neg c10] at H
            exact absurd H (by simp)
        · rw [if_neg c9] at H
          exact absurd H (by simp)
      · rw [if_neg c7] at H
        exact absurd H (by simp)
    · rw [if_neg c6] at H
      exact absurd H (by simp)
  · rw [if_neg c4] at H
    have c4b0 : (t444 == 0) = false := beq_eq_false_iff_ne.mpr c4
    have c4b1 : (t444 != 0) = true := bne_iff_ne.mpr c4
    simp only [Option.some.injEq, Prod.mk.injEq] at H
    obtain ⟨rfl, rfl⟩ := H
    go_enter Try.func29, Try.ntmps29
    go_wp2_with (first | ((with_reducible refine gate_callee (f := 32) rfl ?_); refine goesL_ (some 18) rfl rfl Try.func32 (by kernel_rfl) rfl #[.slice A0 l0.length c0, .int .i64 a1, .int .i64 100000] rfl (by (try simp only [List.map_toArray, List.map_cons, List.map_nil]); first | done | rfl | (simp only [List.length_drop, List.length_take]; rfl)) ?_; (with_reducible refine (pomaderef05_asked.calls k _ _ l0 a1 100000 t444 _ ?side1 ?side2 A3.out).mono ?_); (case side1 => repeat (first | exact HR0.out | (with_reducible refine Kd.C_alloc ?_ _) | (with_reducible refine Kd.C_drewN ?_ _) | (with_reducible refine Kd.C_drew ?_))); (case side2 => exact HC0.out); rintro e w' ⟨rfl, ⟨nd, rfl⟩⟩; refine ⟨_, rfl, ?_⟩))
    go_ret2
    exact ⟨by first | rfl | (simp [errW_none, errW_some] <;> rfl) | (simp [*, errW_none, errW_some] <;> rfl), by repeat (first | (with_reducible first | exact HB.out | apply below_alloc | apply pw_below_drewN | apply below_drew1) | exact HB.out)⟩

end Go.Proofs.Ytgbalmjnjpfopaa.PC
