-- Printed by a program of this session (mkprint.sh, over the kit's print.py), with own proofs for the functions that the print does not take.
import Derived.Test.YtgbalmjnjpfopaaPCx0
import Derived.Test.YtgbalmjnjpfopaaHBack
namespace Go.Proofs.Ytgbalmjnjpfopaa.PC
open Go.RowKit Go.Proofs.YtgbalmjnjpfopaaW.PrintWords Go.Proofs.YtgbalmjnjpfopaaW.PrintLast Go.Proofs.YtgbalmjnjpfopaaW.PrintMore
attribute [local go_sem] max2_int min2_int max_two min_two max_three min_three max_four min_four   -- for this text's walks alone
set_option linter.unusedVariables false
set_option linter.unusedSimpArgs false

/-! ### coins_valid: function 34 -/
mutual
def coins_valid.j0 : Nat → List Int → Bool → Option (Bool)
  | 0, _, _ => none
  | k + 1, x0, x18 => if x18 = true then (some false) else (coins_valid.l0 k x0 x0 (x0.length : Int) 0)
def coins_valid.l0 : Nat → List Int → List Int → Int → Int → Option (Bool)
  | 0, _, _, _, _ => none
  | k + 1, x0, x19, x20, x21 => if x21 < x20 then (if 0 ≤ x21 then (if x21 < (x19.length : Int) then (if (rd x19 x21) > 5000 then (some false) else (if x21 > 0 then (if 0 ≤ (wrap64 (x21 - 1)) then (if (wrap64 (x21 - 1)) < (x0.length : Int) then (if (rd x19 x21) ≤ (rd x0 (wrap64 (x21 - 1))) then (some false) else (coins_valid.l0 k x0 x19 x20 (wrap64 (x21 + 1)))) else (none)) else (none)) else (coins_valid.l0 k x0 x19 x20 (wrap64 (x21 + 1))))) else (none)) else (none)) else (some true)
end
def coins_valid.f (k : Nat) (l0 : List Int) : Option (Bool) := if (l0.length : Int) < 1 then (coins_valid.j0 k l0 true) else (if (l0.length : Int) > 15 then (coins_valid.j0 k l0 true) else (if 0 < (l0.length : Int) then (coins_valid.j0 k l0 ((rd l0 0) != 1)) else (none)))
theorem coins_valid.mono_l : ∀ k, (∀ y0 y1, LeO (coins_valid.j0 k y0 y1) (coins_valid.j0 (k + 1) y0 y1)) ∧ (∀ y0 y1 y2 y3, LeO (coins_valid.l0 k y0 y1 y2 y3) (coins_valid.l0 (k + 1) y0 y1 y2 y3))
  | 0 => ⟨fun _ _ r h => by simp [coins_valid.j0] at h, fun _ _ _ _ r h => by simp [coins_valid.l0] at h⟩
  | k + 1 => by
    obtain ⟨ih0, ih1⟩ := coins_valid.mono_l k
    refine ⟨?_, ?_⟩
    · intro y0 y1
      unfold coins_valid.j0
      repeat' first
      | (with_reducible exact ih0 _ _)
      | (with_reducible exact ih1 _ _ _ _)
      | (with_reducible exact LeO.refl _)
      | (with_reducible exact LeO.none _)
      | (with_reducible refine LeO.ite ?_ ?_)
      | (with_reducible refine LeO.bind ?_ (fun _ => ?_))
      | exact ih0 _ _
      | exact ih1 _ _ _ _
      | exact LeO.none _
      | refine LeO.ite ?_ ?_
      | refine LeO.bind ?_ (fun _ => ?_)
    · intro y0 y1 y2 y3
      unfold coins_valid.l0
      repeat' first
      | (with_reducible exact ih0 _ _)
      | (with_reducible exact ih1 _ _ _ _)
      | (with_reducible exact LeO.refl _)
      | (with_reducible exact LeO.none _)
      | (with_reducible refine LeO.ite ?_ ?_)
      | (with_reducible refine LeO.bind ?_ (fun _ => ?_))
      | exact ih0 _ _
      | exact ih1 _ _ _ _
      | exact LeO.none _
      | refine LeO.ite ?_ ?_
      | refine LeO.bind ?_ (fun _ => ?_)
theorem coins_valid.mono : ∀ a0 k, LeO (coins_valid.f k a0) (coins_valid.f (k + 1) a0) := by
  intro a0 k
  obtain ⟨ih0, ih1⟩ := coins_valid.mono_l k
  unfold coins_valid.f
  repeat' first
      | (with_reducible exact ih0 _ _)
      | (with_reducible exact ih1 _ _ _ _)
      | (with_reducible exact LeO.refl _)
      | (with_reducible exact LeO.none _)
      | (with_reducible refine LeO.ite ?_ ?_)
      | (with_reducible refine LeO.bind ?_ (fun _ => ?_))
      | exact ih0 _ _
      | exact ih1 _ _ _ _
      | exact LeO.none _
      | refine LeO.ite ?_ ?_
      | refine LeO.bind ?_ (fun _ => ?_)
set_option maxHeartbeats 8000000 in
set_option maxRecDepth 100000 in
theorem coins_valid.calls (k : Nat) (A0 : Option Addr) (c0 : Nat) (l0 : List Int) (r : Bool) (w : World) (hr0 : Kd.C (Kd.int .i64) w A0 l0.length l0) (hc0 : l0.length ≤ c0) (h : coins_valid.f k l0 = some r) :
    Calls Try.prog 34 #[.slice A0 l0.length c0] w fun e w' => e = .returned (.bool r) ∧ Drawn0 w w' := by
  have HR0 := Aside0.mk hr0
  have HC0 := Aside0.mk hc0
  clear hr0 hc0
  have H : (if (l0.length : Int) < 1 then (coins_valid.j0 k l0 true) else (if (l0.length : Int) > 15 then (coins_valid.j0 k l0 true) else (if 0 < (l0.length : Int) then (coins_valid.j0 k l0 ((rd l0 0) != 1)) else (none)))) = some r := h
  clear h
  have HC2 := Aside0.mk H
  clear H
  go_enter Try.func34, Try.ntmps34
  go_upto_region 1 with (fail)
  go_cut [18] (fun v18 wc => ∃ (kq : Nat) (x18_1 : Bool), v18 = .bool x18_1 ∧ Aside0 (coins_valid.j0 kq l0 x18_1 = some r) ∧ Aside0 (kq ≤ k) ∧ Drawn0 w wc)
  case first =>
    have H := HC2.out
    clear HC2
    by_cases c3 : (l0.length : Int) < 1
    · rw [if_pos c3] at H
      have c3b0 : decide ((l0.length : Int) < 1) = true := decide_eq_true c3
      have c3b1 : decide (l0.length < 1) = true := decide_eq_true (by omega)
      clear c3
      (first | rw [c3b0] | (simp only [i64_w, i32_w]; rw [c3b0]) | skip)
      have H' := Aside0.mk H
      clear H
      go_wp2
      go_meet
      case rel => exact ⟨_, (true), (by first | rfl | (simp; done) | (simp [*]; done)), H', ⟨by first | omega | exact Nat.le_refl _⟩, by repeat (first | exact Drawn0.refl _ | apply Drawn0.step)⟩
    · rw [if_neg c3] at H
      have c3b0 : decide ((l0.length : Int) < 1) = false := decide_eq_false c3
      have c3b1 : decide (l0.length < 1) = false := decide_eq_false (by omega)
      clear c3
      (first | rw [c3b0] | (simp only [i64_w, i32_w]; rw [c3b0]) | skip)
      by_cases c4 : (l0.length : Int) > 15
      · rw [if_pos c4] at H
        have c4b0 : decide (15 < (l0.length : Int)) = true := decide_eq_true c4
        have c4b1 : decide (15 < l0.length) = true := decide_eq_true (by omega)
        clear c4
        have H' := Aside0.mk H
        clear H
        go_wp2
        go_meet
        case rel => exact ⟨_, (true), (by first | rfl | (simp; done) | (simp [*]; done)), H', ⟨by first | omega | exact Nat.le_refl _⟩, by repeat (first | exact Drawn0.refl _ | apply Drawn0.step)⟩
      · rw [if_neg c4] at H
        have c4b0 : decide (15 < (l0.length : Int)) = false := decide_eq_false c4
        have c4b1 : decide (15 < l0.length) = false := decide_eq_false (by omega)
        clear c4
        by_cases c5 : 0 < (l0.length : Int)
        · rw [if_pos c5] at H
          have c5b0 : decide (0 < (l0.length : Int)) = true := decide_eq_true c5
          have c5b1 : decide (0 < l0.length) = true := decide_eq_true (by omega)
          clear c5
          have H' := Aside0.mk H
          clear H
          have p101 : 0 ≤ (0 : Int) := (by omega)
          have q101 : 0 < (l0.length : Int) := of_decide_eq_true (by first | (with_reducible assumption) | assumption)
          obtain ⟨ad101, e101, hx101_0⟩ := Kd.at_int HR0.out 0 p101 q101
          cases e101
          have qi101 : (0 < l0.length) = True := eq_true (by omega)
          (try rw [show ((0 : Int)).toNat = 0 from rfl] at hx101_0)
          (try rw [Addr.add_zero'] at hx101_0)
          replace p101 := eq_true p101
          replace q101 := eq_true q101
          go_wp2
          go_meet
          case rel => exact ⟨_, (((rd l0 0) != 1)), (by first | rfl | (simp; done) | (simp [*]; done)), H', ⟨by first | omega | exact Nat.le_refl _⟩, by repeat (first | exact Drawn0.refl _ | apply Drawn0.step)⟩
        · rw [if_neg c5] at H
          exact absurd H (by simp)
  case rest =>
    clear HC2
    try clear p1
    try clear q1
    try clear hx1
    try clear qi1
    try clear p2
    try clear c3
    try clear c3b0
    try clear c3b1
    try clear c4
    try clear c4b0
    try clear c4b1
    try clear c5
    try clear c5b0
    try clear c5b1
    try clear hx101_0
    try clear p101
    try clear q101
    obtain ⟨kq, x18_1, rfl, HA, HJ1, ⟨mc1, rfl⟩⟩ := hcut
    cases kq with
    | zero => exact absurd HA.out (by simp [coins_valid.j0])
    | succ kj1 =>
      have H := HA.out
      clear HA
      simp only [coins_valid.j0] at H
      by_cases c6 : x18_1 = true
      · subst c6
        have H1 : (some false) = some r := by rw [if_pos rfl] at H; exact H
        clear H
        have H := H1
        clear H1
        obtain rfl := Option.some.inj H
        go_wp2
        go_ret
        exact ⟨by first | rfl | (simp; done) | (simp [*]; done), by repeat (first | exact Drawn0.refl _ | apply Drawn0.step)⟩
      · replace c6 := Bool.eq_false_iff.mpr c6
        subst c6
        have H1 : (coins_valid.l0 kj1 l0 l0 (l0.length : Int) 0) = some r := by rw [if_neg (show ¬ (false = true) by decide)] at H; exact H
        clear H
        have H := H1
        clear H1
        have H' := Aside0.mk H
        clear H
        go_wp2
        go_loopg [21] kj1 (fun kq v21 w' => ∃ (x21_2 : Int), v21 = .int .i64 x21_2 ∧ Aside0 (coins_valid.l0 kq l0 l0 (l0.length : Int) x21_2 = some r) ∧ Aside0 (kq ≤ kj1) ∧ Drawn0 w w')
        case atStart => exact ⟨(0), (by first | rfl | (simp; done) | (simp [*]; done)), H', ⟨Nat.le_refl _⟩, by repeat (first | exact Drawn0.refl _ | apply Drawn0.step)⟩
        case round =>
          clear H'
          try clear c1
          try clear p1
          try clear q1
          try clear hx1
          try clear qi1
          try clear p2
          try clear c3
          try clear c3b0
          try clear c3b1
          try clear c4
          try clear c4b0
          try clear c4b1
          try clear c5
          try clear c5b0
          try clear c5b1
          try clear c6
          try clear hx101_0
          try clear p1
          try clear p101
          try clear p2
          try clear q1
          try clear q101
          obtain ⟨x21_2, rfl, HA, HK2, ⟨m2, rfl⟩⟩ := hrel
          cases gk with
          | zero => exact absurd HA.out (by simp [coins_valid.l0])
          | succ k2 =>
            have H := HA.out
            clear HA
            simp only [coins_valid.l0] at H
            by_cases c7 : x21_2 < (l0.length : Int)
            · rw [if_pos c7] at H
              have c7b0 : decide (x21_2 < (l0.length : Int)) = true := decide_eq_true c7
              clear c7
              by_cases c8 : 0 ≤ x21_2
              · rw [if_pos c8] at H
                have c8b0 : decide (0 ≤ x21_2) = true := decide_eq_true c8
                clear c8
                by_cases c9 : x21_2 < (l0.length : Int)
                · rw [if_pos c9] at H
                  have c9b0 : decide (x21_2 < (l0.length : Int)) = true := decide_eq_true c9
                  clear c9
                  by_cases c10 : (rd l0 x21_2) > 5000
                  · rw [if_pos c10] at H
                    have c10b0 : decide (5000 < (rd l0 x21_2)) = true := decide_eq_true c10
                    clear c10
                    obtain rfl := Option.some.inj H
                    have p102 : 0 ≤ (x21_2 : Int) := of_decide_eq_true (by first | (with_reducible assumption) | assumption)
                    have q102 : x21_2 < (l0.length : Int) := of_decide_eq_true (by first | (with_reducible assumption) | assumption)
                    obtain ⟨ad102, e102, hx102_0⟩ := Kd.at_int HR0.out x21_2 p102 q102
                    cases e102
                    replace p102 := eq_true p102
                    replace q102 := eq_true q102
                    go_wp2
                    go_ret
                    exact ⟨by first | rfl | (simp; done) | (simp [*]; done), by repeat (first | exact Drawn0.refl _ | apply Drawn0.step)⟩
                  · rw [if_neg c10] at H
                    have c10b0 : decide (5000 < (rd l0 x21_2)) = false := decide_eq_false c10
                    clear c10
                    by_cases c11 : x21_2 > 0
                    · rw [if_pos c11] at H
                      have c11b0 : decide (0 < x21_2) = true := decide_eq_true c11
                      clear c11
                      obtain ⟨ji12, hji12⟩ : ∃ j_ : Int, (wrap64 (x21_2 - 1)) = j_ := ⟨_, rfl⟩
                      replace H : (if 0 ≤ (ji12) then (if (ji12) < (l0.length : Int) then (if (rd l0 x21_2) ≤ (rd l0 (ji12)) then (some false) else (coins_valid.l0 k2 l0 l0 (l0.length : Int) (wrap64 (x21_2 + 1)))) else (none)) else (none)) = some r := by first | (rw [hji12] at H; exact H) | (simp only [hji12] at H ⊢; exact H)
                      have hji12w : (IntKind.i64.wrap (x21_2 - 1)) = ji12 := (i64_w _).trans hji12
                      by_cases c13 : 0 ≤ (ji12)
                      · rw [if_pos c13] at H
                        have c13b0 : decide (0 ≤ (ji12)) = true := decide_eq_true c13
                        clear c13
                        by_cases c14 : (ji12) < (l0.length : Int)
                        · rw [if_pos c14] at H
                          have c14b0 : decide ((ji12) < (l0.length : Int)) = true := decide_eq_true c14
                          clear c14
                          by_cases c15 : (rd l0 x21_2) ≤ (rd l0 (ji12))
                          · rw [if_pos c15] at H
                            have c15b0 : decide ((rd l0 x21_2) ≤ (rd l0 (ji12))) = true := decide_eq_true c15
                            clear c15
                            obtain rfl := Option.some.inj H
                            have p102 : 0 ≤ (x21_2 : Int) := of_decide_eq_true (by first | (with_reducible assumption) | assumption)
                            have q102 : x21_2 < (l0.length : Int) := of_decide_eq_true (by first | (with_reducible assumption) | assumption)
                            obtain ⟨ad102, e102, hx102_0⟩ := Kd.at_int HR0.out x21_2 p102 q102
                            cases e102
                            replace p102 := eq_true p102
                            replace q102 := eq_true q102
                            have p103 : 0 ≤ ((ji12) : Int) := of_decide_eq_true (by first | (with_reducible assumption) | assumption)
                            have q103 : (ji12) < (l0.length : Int) := of_decide_eq_true (by first | (with_reducible assumption) | assumption)
                            obtain ⟨ad103, e103, hx103_0⟩ := Kd.at_int HR0.out (ji12) p103 q103
                            obtain rfl : ad102 = ad103 := (by injection e103)
                            replace p103 := eq_true p103
                            replace q103 := eq_true q103
                            go_wp2
                            go_ret
                            exact ⟨by first | rfl | (simp; done) | (simp only [← hji12] <;> (first | rfl | simp)) | (simp [*]; done), by repeat (first | exact Drawn0.refl _ | apply Drawn0.step)⟩
                          · rw [if_neg c15] at H
                            have c15b0 : decide ((rd l0 x21_2) ≤ (rd l0 (ji12))) = false := decide_eq_false c15
                            clear c15
                            have H' := Aside0.mk H
                            clear H
                            have p102 : 0 ≤ (x21_2 : Int) := of_decide_eq_true (by first | (with_reducible assumption) | assumption)
                            have q102 : x21_2 < (l0.length : Int) := of_decide_eq_true (by first | (with_reducible assumption) | assumption)
                            obtain ⟨ad102, e102, hx102_0⟩ := Kd.at_int HR0.out x21_2 p102 q102
                            cases e102
                            replace p102 := eq_true p102
                            replace q102 := eq_true q102
                            have p103 : 0 ≤ ((ji12) : Int) := of_decide_eq_true (by first | (with_reducible assumption) | assumption)
                            have q103 : (ji12) < (l0.length : Int) := of_decide_eq_true (by first | (with_reducible assumption) | assumption)
                            obtain ⟨ad103, e103, hx103_0⟩ := Kd.at_int HR0.out (ji12) p103 q103
                            obtain rfl : ad102 = ad103 := (by injection e103)
                            replace p103 := eq_true p103
                            replace q103 := eq_true q103
                            go_wp2
                            go_roundg k2
                            case measure => have := HJ1.out; have := HK2.out; omega
                            case rel => exact ⟨(wrap64 (x21_2 + 1)), (by first | rfl | (simp; done) | (simp [*]; done)), H', ⟨by have := HJ1.out; have := HK2.out; omega⟩, by repeat (first | exact Drawn0.refl _ | apply Drawn0.step)⟩
                        · rw [if_neg c14] at H
                          exact absurd H (by simp)
                      · rw [if_neg c13] at H
                        exact absurd H (by simp)
                    · rw [if_neg c11] at H
                      have c11b0 : decide (0 < x21_2) = false := decide_eq_false c11
                      clear c11
                      have H' := Aside0.mk H
                      clear H
                      have p102 : 0 ≤ (x21_2 : Int) := of_decide_eq_true (by first | (with_reducible assumption) | assumption)
                      have q102 : x21_2 < (l0.length : Int) := of_decide_eq_true (by first | (with_reducible assumption) | assumption)
                      obtain ⟨ad102, e102, hx102_0⟩ := Kd.at_int HR0.out x21_2 p102 q102
                      cases e102
                      replace p102 := eq_true p102
                      replace q102 := eq_true q102
                      go_wp2
                      go_roundg k2
                      case measure => have := HJ1.out; have := HK2.out; omega
                      case rel => exact ⟨(wrap64 (x21_2 + 1)), (by first | rfl | (simp; done) | (simp [*]; done)), H', ⟨by have := HJ1.out; have := HK2.out; omega⟩, by repeat (first | exact Drawn0.refl _ | apply Drawn0.step)⟩
                · rw [if_neg c9] at H
                  exact absurd H (by simp)
              · rw [if_neg c8] at H
                exact absurd H (by simp)
            · rw [if_neg c7] at H
              have c7b0 : decide (x21_2 < (l0.length : Int)) = false := decide_eq_false c7
              clear c7
              obtain rfl := Option.some.inj H
              go_wp2
              go_ret
              exact ⟨by first | rfl | (simp; done) | (simp [*]; done), by repeat (first | exact Drawn0.refl _ | apply Drawn0.step)⟩

/-! ### coins_looked: function 30 -/
def coins_looked.f (k : Nat) (l0 : List Int) (a1 : Int) (a2 : Int) : Option (Int) := (coins_valid.f k l0).bind fun t104 => (if t104 = true then (if a1 < 0 then (some 4) else (if a1 > a2 then (some 4) else (some 0))) else (some 2))
theorem coins_looked.mono : ∀ a0 a1 a2 k, LeO (coins_looked.f k a0 a1 a2) (coins_looked.f (k + 1) a0 a1 a2) := by
  intro a0 a1 a2 k
  unfold coins_looked.f
  repeat' first
      | (with_reducible exact coins_valid.mono _ _)
      | (with_reducible exact LeO.refl _)
      | (with_reducible exact LeO.none _)
      | (with_reducible refine LeO.ite ?_ ?_)
      | (with_reducible refine LeO.bind ?_ (fun _ => ?_))
      | exact coins_valid.mono _ _
      | exact LeO.none _
      | refine LeO.ite ?_ ?_
      | refine LeO.bind ?_ (fun _ => ?_)
set_option maxHeartbeats 8000000 in
set_option maxRecDepth 100000 in
theorem coins_looked.calls (k : Nat) (A0 : Option Addr) (c0 : Nat) (l0 : List Int) (a1 : Int) (a2 : Int) (r : Int) (w : World) (hr0 : Kd.C (Kd.int .i64) w A0 l0.length l0) (hc0 : l0.length ≤ c0) (h : coins_looked.f k l0 a1 a2 = some r) :
    Calls Try.prog 30 #[.slice A0 l0.length c0, .int .i64 a1, .int .i64 a2] w fun e w' => e = .returned (.int .i64 r) ∧ Drawn0 w w' := by
  have HR0 := Aside0.mk hr0
  have HC0 := Aside0.mk hc0
  clear hr0 hc0
  have H : ((coins_valid.f k l0).bind fun t104 => (if t104 = true then (if a1 < 0 then (some 4) else (if a1 > a2 then (some 4) else (some 0))) else (some 2))) = some r := h
  clear h
  replace H := Option.bind_eq_some_iff.mp H
  obtain ⟨t104, A40, H⟩ := H
  replace H : (if t104 = true then (if a1 < 0 then (some 4) else (if a1 > a2 then (some 4) else (some 0))) else (some 2)) = some r := H
  have A4 := Aside0.mk A40
  clear A40
  by_cases c5 : t104 = true
  · subst c5
    have H1 : (if a1 < 0 then (some 4) else (if a1 > a2 then (some 4) else (some 0))) = some r := by rw [if_pos rfl] at H; exact H
    clear H
    have H := H1
    clear H1
    by_cases c6 : a1 < 0
    · rw [if_pos c6] at H
      have c6b0 : decide (a1 < 0) = true := decide_eq_true c6
      clear c6
      obtain rfl := Option.some.inj H
      go_enter Try.func30, Try.ntmps30
      go_wp2_with (first | ((with_reducible refine gate_callee (f := 34) rfl ?_); refine goesL_ (some 9) rfl rfl Try.func34 (by kernel_rfl) rfl #[.slice A0 l0.length c0] rfl (by (try simp only [List.map_toArray, List.map_cons, List.map_nil]); first | done | rfl | (simp only [List.length_drop, List.length_take]; rfl)) ?_; (with_reducible refine (coins_valid.calls k _ _ l0 true _ ?side1 ?side2 A4.out).mono ?_); (case side1 => repeat (first | exact HR0.out | (with_reducible refine Kd.C_alloc ?_ _) | (with_reducible refine Kd.C_drewN ?_ _) | (with_reducible refine Kd.C_drew ?_))); (case side2 => exact HC0.out); rintro e w' ⟨rfl, ⟨nd, rfl⟩⟩; refine ⟨_, rfl, ?_⟩))
      go_ret
      exact ⟨by first | rfl | (simp; done) | (simp [*]; done), by repeat (first | exact Drawn0.refl _ | apply Drawn0.step)⟩
    · rw [if_neg c6] at H
      have c6b0 : decide (a1 < 0) = false := decide_eq_false c6
      clear c6
      by_cases c7 : a1 > a2
      · rw [if_pos c7] at H
        have c7b0 : decide (a2 < a1) = true := decide_eq_true c7
        clear c7
        obtain rfl := Option.some.inj H
        go_enter Try.func30, Try.ntmps30
        go_wp2_with (first | ((with_reducible refine gate_callee (f := 34) rfl ?_); refine goesL_ (some 9) rfl rfl Try.func34 (by kernel_rfl) rfl #[.slice A0 l0.length c0] rfl (by (try simp only [List.map_toArray, List.map_cons, List.map_nil]); first | done | rfl | (simp only [List.length_drop, List.length_take]; rfl)) ?_; (with_reducible refine (coins_valid.calls k _ _ l0 true _ ?side1 ?side2 A4.out).mono ?_); (case side1 => repeat (first | exact HR0.out | (with_reducible refine Kd.C_alloc ?_ _) | (with_reducible refine Kd.C_drewN ?_ _) | (with_reducible refine Kd.C_drew ?_))); (case side2 => exact HC0.out); rintro e w' ⟨rfl, ⟨nd, rfl⟩⟩; refine ⟨_, rfl, ?_⟩))
        go_ret
        exact ⟨by first | rfl | (simp; done) | (simp [*]; done), by repeat (first | exact Drawn0.refl _ | apply Drawn0.step)⟩
      · rw [if_neg c7] at H
        have c7b0 : decide (a2 < a1) = false := decide_eq_false c7
        clear c7
        obtain rfl := Option.some.inj H
        go_enter Try.func30, Try.ntmps30
        go_wp2_with (first | ((with_reducible refine gate_callee (f := 34) rfl ?_); refine goesL_ (some 9) rfl rfl Try.func34 (by kernel_rfl) rfl #[.slice A0 l0.length c0] rfl (by (try simp only [List.map_toArray, List.map_cons, List.map_nil]); first | done | rfl | (simp only [List.length_drop, List.length_take]; rfl)) ?_; (with_reducible refine (coins_valid.calls k _ _ l0 true _ ?side1 ?side2 A4.out).mono ?_); (case side1 => repeat (first | exact HR0.out | (with_reducible refine Kd.C_alloc ?_ _) | (with_reducible refine Kd.C_drewN ?_ _) | (with_reducible refine Kd.C_drew ?_))); (case side2 => exact HC0.out); rintro e w' ⟨rfl, ⟨nd, rfl⟩⟩; refine ⟨_, rfl, ?_⟩))
        go_ret
        exact ⟨by first | rfl | (simp; done) | (simp [*]; done), by repeat (first | exact Drawn0.refl _ | apply Drawn0.step)⟩
  · replace c5 := Bool.eq_false_iff.mpr c5
    subst c5
    have H1 : (some 2) = some r := by rw [if_neg (show ¬ (false = true) by decide)] at H; exact H
    clear H
    have H := H1
    clear H1
    obtain rfl := Option.some.inj H
    go_enter Try.func30, Try.ntmps30
    go_wp2_with (first | ((with_reducible refine gate_callee (f := 34) rfl ?_); refine goesL_ (some 9) rfl rfl Try.func34 (by kernel_rfl) rfl #[.slice A0 l0.length c0] rfl (by (try simp only [List.map_toArray, List.map_cons, List.map_nil]); first | done | rfl | (simp only [List.length_drop, List.length_take]; rfl)) ?_; (with_reducible refine (coins_valid.calls k _ _ l0 false _ ?side1 ?side2 A4.out).mono ?_); (case side1 => repeat (first | exact HR0.out | (with_reducible refine Kd.C_alloc ?_ _) | (with_reducible refine Kd.C_drewN ?_ _) | (with_reducible refine Kd.C_drew ?_))); (case side2 => exact HC0.out); rintro e w' ⟨rfl, ⟨nd, rfl⟩⟩; refine ⟨_, rfl, ?_⟩))
    go_ret
    exact ⟨by first | rfl | (simp; done) | (simp [*]; done), by repeat (first | exact Drawn0.refl _ | apply Drawn0.step)⟩

-- NOT PRINTED: function 43 (slices_Backward_int_int)

/-! ### coins_greedy: function 31 -/
/-- greedy change, from the tail (the greater coins) on: the counts, and what is left -/
def coins_greedy.gl : List Int → Int → List Int × Int
  | [], a => ([], a)
  | v :: l, a => ((coins_greedy.gl l a).2 / v :: (coins_greedy.gl l a).1, (coins_greedy.gl l a).2 % v)
def coins_greedy.f (k : Nat) (l0 : List Int) (a1 : Int) : Option (List Int) :=
  if l0.length ≤ 40 ∧ (∀ v ∈ l0, 1 ≤ v ∧ v ≤ 1000000) ∧ 0 ≤ a1 ∧ a1 ≤ 1152921504606846976 then some (coins_greedy.gl l0 a1).1 else none
theorem coins_greedy.mono : ∀ a0 a1 k, LeO (coins_greedy.f k a0 a1) (coins_greedy.f (k + 1) a0 a1) := fun _ _ _ => LeO.refl _

section
open Go.Shelf Go.Proofs.Ytgbalmjnjpfopaa.HBack
attribute [local go_sem] Oper.semAt_some
/-- what the two variables hold when k rounds are over -/
def coins_greedy.gst (l : List Int) (a : Int) (k : Nat) : List Int × Int := (List.replicate (l.length - k) 0 ++ (coins_greedy.gl (l.drop (l.length - k)) a).1, (coins_greedy.gl (l.drop (l.length - k)) a).2)
theorem coins_greedy.gl_len (l : List Int) (a : Int) : (coins_greedy.gl l a).1.length = l.length := by
  induction l with
  | nil => rfl
  | cons v l ih => simp [coins_greedy.gl, ih]
theorem coins_greedy.gl_rem (l : List Int) (a : Int) (hv : ∀ v ∈ l, 1 ≤ v ∧ v ≤ 1000000) (ha : 0 ≤ a) : 0 ≤ (coins_greedy.gl l a).2 ∧ (coins_greedy.gl l a).2 ≤ a := by
  induction l with
  | nil => exact ⟨ha, Int.le_refl _⟩
  | cons v l ih =>
    obtain ⟨h1, h2⟩ := ih (fun x hx => hv x (List.mem_cons_of_mem _ hx))
    have hv1 := (hv v List.mem_cons_self).1
    have h3 := Int.emod_nonneg (coins_greedy.gl l a).2 (show v ≠ 0 by omega)
    have h4 : (coins_greedy.gl l a).2 % v ≤ (coins_greedy.gl l a).2 := by
      have h5 := Int.emod_add_mul_ediv (coins_greedy.gl l a).2 v
      have h6 := Int.mul_nonneg (show 0 ≤ v by omega) (Int.ediv_nonneg h1 (show 0 ≤ v by omega))
      omega
    simp only [coins_greedy.gl]
    omega


theorem coins_greedy.gst_zero (l : List Int) (a : Int) : coins_greedy.gst l a 0 = (List.replicate l.length 0, a) := by simp [coins_greedy.gst, coins_greedy.gl]
theorem coins_greedy.gst_all (l : List Int) (a : Int) : coins_greedy.gst l a l.length = coins_greedy.gl l a := by simp [coins_greedy.gst]
theorem coins_greedy.gst_len (l : List Int) (a : Int) (k : Nat) (hk : k ≤ l.length) : (coins_greedy.gst l a k).1.length = l.length := by simp [coins_greedy.gst, coins_greedy.gl_len] <;> omega
theorem coins_greedy.gst_rem (l : List Int) (a : Int) (k : Nat) (hv : ∀ v ∈ l, 1 ≤ v ∧ v ≤ 1000000) (ha : 0 ≤ a) : 0 ≤ (coins_greedy.gst l a k).2 ∧ (coins_greedy.gst l a k).2 ≤ a := coins_greedy.gl_rem _ _ (fun v hm => hv v (List.mem_of_mem_drop hm)) ha
theorem coins_greedy.gst_succ (l : List Int) (a : Int) (k q : Nat) (hq : l.length - 1 - k = q) (hk : k < l.length) :
    coins_greedy.gst l a (k + 1) = ((coins_greedy.gst l a k).1.set q ((coins_greedy.gst l a k).2 / l[q]?.getD 0), (coins_greedy.gst l a k).2 % l[q]?.getD 0) := by
  subst hq
  have hd : l.drop (l.length - (k + 1)) = l[l.length - 1 - k]?.getD 0 :: l.drop (l.length - k) := by
    rw [List.drop_eq_getElem_cons (by omega), List.getElem?_eq_getElem (by omega)]
    have : l.length - (k + 1) = l.length - 1 - k := by omega
    simp only [this, Option.getD_some]
    rw [show l.length - 1 - k + 1 = l.length - k by omega]
  have hr : List.replicate (l.length - k) (0 : Int) = List.replicate (l.length - (k + 1)) 0 ++ [0] := by
    rw [show l.length - k = (l.length - (k + 1)) + 1 by omega, List.replicate_succ']
  simp only [coins_greedy.gst, hd, coins_greedy.gl]
  refine Prod.ext ?_ rfl
  simp only
  rw [hr, List.append_assoc, List.set_append_right _ _ (by simp; omega)]
  simp
  rw [show l.length - 1 - k - (l.length - (k + 1)) = 0 by omega]
  rfl

/-- what the iterator hands to a round: an index, and a value -/
abbrev coins_greedy.GX (len : Nat) : Type := { x : Int × Int // 0 ≤ x.1 ∧ (0 < len → x.1 < len) ∧ 1 ≤ x.2 ∧ x.2 ≤ 1000000 }
def coins_greedy.gx (l : List Int) (hv : ∀ v ∈ l, 1 ≤ v ∧ v ≤ 1000000) (j : Nat) : coins_greedy.GX l.length :=
  if h : j < l.length then ⟨(((l.length - 1 - j : Nat) : Int), l[l.length - 1 - j]), by
    have := hv l[l.length - 1 - j] (List.getElem_mem _)
    omega⟩ else ⟨(0, 1), by omega⟩
def coins_greedy.gstep {n : Nat} (s : List Int × Int) (x : coins_greedy.GX n) : List Int × Int := (s.1.set x.1.1.toNat (s.2 / x.1.2), s.2 % x.1.2)
def coins_greedy.gf {n : Nat} (a : Int) (pre : List (coins_greedy.GX n)) : List Int × Int := pre.foldl coins_greedy.gstep (List.replicate n 0, a)
theorem coins_greedy.gf_snoc {n : Nat} (a : Int) (pre : List (coins_greedy.GX n)) (x : coins_greedy.GX n) : coins_greedy.gf a (pre ++ [x]) = coins_greedy.gstep (coins_greedy.gf a pre) x := by simp [coins_greedy.gf]
theorem coins_greedy.gf_upto (l : List Int) (hv : ∀ v ∈ l, 1 ≤ v ∧ v ≤ 1000000) (a : Int) (k : Nat) (hk : k ≤ l.length) : coins_greedy.gf a (upto (coins_greedy.gx l hv) k) = coins_greedy.gst l a k := by
  induction k with
  | zero => rw [coins_greedy.gst_zero]; rfl
  | succ k ih =>
    rw [upto_succ, coins_greedy.gf_snoc, ih (by omega), coins_greedy.gst_succ l a k _ rfl (by omega)]
    have h : coins_greedy.gx l hv k = ⟨(((l.length - 1 - k : Nat) : Int), l[l.length - 1 - k]), _⟩ := dif_pos (by omega)
    rw [h, List.getElem?_eq_getElem (by omega)]
    rfl
theorem coins_greedy.gf_ok {n : Nat} (a : Int) (h0 : 0 ≤ a) (pre : List (coins_greedy.GX n)) : (coins_greedy.gf a pre).1.length = n ∧ 0 ≤ (coins_greedy.gf a pre).2 ∧ (coins_greedy.gf a pre).2 ≤ a := by
  have key : ∀ (pre : List (coins_greedy.GX n)) (s : List Int × Int), s.1.length = n → 0 ≤ s.2 → s.2 ≤ a → (pre.foldl coins_greedy.gstep s).1.length = n ∧ 0 ≤ (pre.foldl coins_greedy.gstep s).2 ∧ (pre.foldl coins_greedy.gstep s).2 ≤ a := by
    intro pre
    induction pre with
    | nil => exact fun s h1 h2 h3 => ⟨h1, h2, h3⟩
    | cons x pre ih =>
      intro s h1 h2 h3
      have hx := x.2.2.2.1
      have h5 := Int.emod_add_mul_ediv s.2 x.1.2
      have h6 := Int.mul_nonneg (show 0 ≤ x.1.2 by omega) (Int.ediv_nonneg h2 (show 0 ≤ x.1.2 by omega))
      have h7 := Int.emod_nonneg s.2 (show x.1.2 ≠ 0 by omega)
      exact ih (coins_greedy.gstep s x) (by simp only [coins_greedy.gstep, List.length_set]; exact h1) (by simp only [coins_greedy.gstep]; omega) (by simp only [coins_greedy.gstep]; omega)
  exact key pre _ (by simp) h0 (Int.le_refl _)
set_option maxRecDepth 100000 in
set_option maxHeartbeats 2000000 in
theorem coins_greedy.walk (A0 : Option Addr) (c0 : Nat) (l0 : List Int) (a1 : Int) (w : World) (hr0 : Kd.C (Kd.int .i64) w A0 l0.length l0) (hc0 : l0.length ≤ c0) (hlen : l0.length ≤ 40) (hv : ∀ v ∈ l0, 1 ≤ v ∧ v ≤ 1000000) (ha : 0 ≤ a1) (ha1 : a1 ≤ 1152921504606846976) :
    Calls Try.prog 31 #[.slice A0 l0.length c0, .int .i64 a1] w fun e w' => ∃ v0_ : Value, e = .returned (v0_) ∧ Kd.R (Kd.int .i64) 3 w' w.heap.size (fun _ => True) v0_ (coins_greedy.gl l0 a1).1 ∧ Below w.heap.size w w' := by
  have hmk := @print_make Try.prog 22 3 .i64 8 Try.underlying22 info3 (by decide) l0.length (by omega)
  have HI := ints_of_C hr0
  clear hr0
  refine (callsIn_wide (n := 5)).1 ?_
  refine callsIn_of_wp_marks Try.func31 rfl trivial ?_ rfl
  simp only [Try.ntmps31, List.size_toArray, List.length_cons, List.length_nil, Nat.reduceAdd, Nat.reduceSub, Array.replicate_succ, Array.replicate_zero, List.push_toArray, List.append_toArray, List.nil_append, List.cons_append]
  have HHI := Lib.hid HI
  have HV := Lib.hid hv
  clear HI hv
  gi_wp2_with (refine ⟨trivial, ?_⟩; gi_at_call 43; refine (back_in Fence.wide (5 - 1) trivial rfl _ _ _ _).mono ?_; rintro e w' ⟨rfl, rfl⟩)
  obtain ⟨n₀, hn₀⟩ : ∃ n₀, w.heap.size = n₀ := ⟨_, rfl⟩
  obtain ⟨W1, hW1⟩ : ∃ W1, (((w.alloc (.cells #[.int .i64 a1] 3)).alloc (.cells (madeCells #[.int .i64 0] l0.length) 3)).alloc (.cells #[.slice (some ⟨w.heap.size + 1, 0, none⟩) l0.length l0.length] 22)).alloc (.cells #[.slice A0 l0.length c0] 22) = W1 := ⟨_, rfl⟩
  have bA : Boxed W1 n₀ 3 (.int .i64 a1) := by rw [← hW1, ← hn₀]; exact (((Boxed.new w 3 _).alloc _).alloc _).alloc _
  have bC : Blk W1 (n₀ + 1) 3 ((coins_greedy.gst l0 a1 0).1.map (.int .i64)) := by
    rw [← hW1, ← hn₀, coins_greedy.gst_zero]
    have h := blk_of_made (w.alloc (.cells #[.int .i64 a1] 3)) l0.length
    rw [World.size_alloc] at h
    exact (h.alloc _).alloc _
  have bO : Boxed W1 (n₀ + 2) 22 (.slice (some ⟨n₀ + 1, 0, none⟩) l0.length l0.length) := by
    rw [← hW1, ← hn₀]
    have h := Boxed.new ((w.alloc (.cells #[.int .i64 a1] 3)).alloc (.cells (madeCells #[.int .i64 0] l0.length) 3)) 22 (.slice (some ⟨w.heap.size + 1, 0, none⟩) l0.length l0.length)
    rw [World.size_alloc, World.size_alloc] at h
    exact h.alloc _
  have bS : Boxed W1 (n₀ + 3) 22 (.slice A0 l0.length c0) := by
    rw [← hW1, ← hn₀]
    have h := Boxed.new (((w.alloc (.cells #[.int .i64 a1] 3)).alloc (.cells (madeCells #[.int .i64 0] l0.length) 3)).alloc (.cells #[.slice (some ⟨w.heap.size + 1, 0, none⟩) l0.length l0.length] 22)) 22 (.slice A0 l0.length c0)
    rw [World.size_alloc, World.size_alloc, World.size_alloc] at h
    exact h
  have hB1 : Below n₀ w W1 := by
    rw [← hW1, ← hn₀]
    exact ((((Below.refl _ w).alloc (Nat.le_refl _) _).alloc (by simp) _).alloc (by simp; omega) _).alloc (by simp; omega) _
  have hsz : W1.heap.size = n₀ + 4 := by rw [← hW1, ← hn₀]; simp
  have HI1 := HHI.out
  rw [hn₀] at HI1
  rw [hW1]
  simp only [hn₀]
  refine wpIn_rangeFunc_ownG (α := coins_greedy.GX l0.length) (F := Fence.wide) (n := 5) rfl (by omega) (gf := 47) (lb := #[.pointer (some ⟨n₀ + 1 + 1 + 1, 0, none⟩)]) rfl trivial (enters_of Try.func47 (by kernel_rfl) rfl)
    (back_stops (fun x : coins_greedy.GX l0.length => #[Value.int .i64 x.1.1, Value.int .i64 x.1.2]) (coins_greedy.gx l0 HV.out) Fence.wide (5 - 1) trivial rfl (by omega) (n₀ + 3) n₀ A0 c0 l0 (by omega) W1 (by omega) (by omega) bS (HI1.below hB1) ?hg)
    (fun h k => h.trans k) (Kept.put (by omega) (by omega)) (Below.refl _ _) (fun _ => rfl)
    (fun pre W => (Boxed W n₀ 3 (.int .i64 (coins_greedy.gf a1 pre).2) ∧ Blk W (n₀ + 1) 3 ((coins_greedy.gf a1 pre).1.map (.int .i64)) ∧ Boxed W (n₀ + 2) 22 (.slice (some ⟨n₀ + 1, 0, none⟩) l0.length l0.length)) ∧ Below n₀ w W)
    (fun _ _ _ => False)
    (OwnFrom.and (OwnFrom.and (Own.from (boxed_own _ _ _) _) (OwnFrom.and (Own.from (blk_own _ _ _) _) (Own.from (boxed_own (n₀ + 2) 22 (fun _ => .slice (some ⟨n₀ + 1, 0, none⟩) l0.length l0.length)) _))) (ownFrom_below (by omega) (by omega)))
    (fun _ _ _ _ _ hs _ _ => hs)
    ⟨⟨bA, by rw [coins_greedy.gst_zero] at bC; exact bC, bO⟩, hB1⟩
    (fun x => { tmps := #[.slice A0 l0.length c0, .int .i64 a1, undef, .pointer (some ⟨n₀, 0, none⟩), .slice none 0 0, .pointer (some ⟨n₀ + 1 + 1, 0, none⟩), .int .i64 x.1.1, .int .i64 x.1.2, .slice A0 l0.length c0, .int .i64 (l0.length : Int), .slice (some ⟨n₀ + 1, 0, none⟩) l0.length l0.length, .slice A0 l0.length c0, .func (.func 47) #[] #[.pointer (some ⟨n₀ + 1 + 1 + 1, 0, none⟩)], .int .i64 x.1.1, .int .i64 x.1.2, undef, undef, undef, undef, undef, undef, undef, undef, undef, undef], defers := [] }) ?assign ?body ?done ?stop
  case hg =>
    intro j hj
    have h : coins_greedy.gx l0 HV.out j = ⟨(((l0.length - 1 - j : Nat) : Int), l0[l0.length - 1 - j]), _⟩ := dif_pos hj
    rw [h, List.getElem?_eq_getElem (by omega)]
    rfl
  case assign =>
    intro l x W K hK
    gi_wp2
    exact hK
  case stop =>
    rintro D c pre W hD _ ⟨⟨⟩, _⟩
  case body =>
    rintro l pre x W ⟨⟨hA, hC, hO⟩, hB⟩ hpl
    obtain ⟨g1, g2, g3⟩ := coins_greedy.gf_ok a1 ha pre
    obtain ⟨hx0, hx1, hx2, hx3⟩ := x.2
    have hx1' := hx1 (by omega)
    obtain ⟨i, hi⟩ : ∃ i : Nat, x.1.1 = i := ⟨x.1.1.toNat, by omega⟩
    have hil : i < l0.length := by omega
    have hil' : i < (coins_greedy.gf a1 pre).1.length := by omega
    have cO := hO.cell
    have cA := hA.cell
    have fA := hA.frozen
    obtain ⟨u, cC⟩ : ∃ u, W.cell? ⟨n₀ + 1, i, none⟩ = some u := ⟨_, hC.cell (i := i) (by simpa using hil')⟩
    have fC := hC.frozen i
    rw [hi]
    have HXI := Lib.hid hi
    have G1 := Lib.hid g1
    clear hi g1 hx0 hx1 hx1' hil'
    obtain ⟨am, ham⟩ : ∃ am, (coins_greedy.gf a1 pre).2 = am := ⟨_, rfl⟩
    rw [ham] at cA g2 g3
    have HAM := Lib.hid ham
    clear ham
    obtain ⟨v, hv⟩ : ∃ v, x.1.2 = v := ⟨_, rfl⟩
    rw [hv] at hx2 hx3 ⊢
    have HXV := Lib.hid hv
    clear hv
    have hv0 : ¬ v = 0 := by omega
    have hv1 : (v == 0) = false := beq_eq_false_iff_ne.2 hv0
    have hfin : ownPostG W1.heap.size (HBack.Kept n₀ (n₀ + 3)) (fun pre W => (Boxed W n₀ 3 (.int .i64 (coins_greedy.gf a1 pre).2) ∧ Blk W (n₀ + 1) 3 ((coins_greedy.gf a1 pre).1.map (.int .i64)) ∧ Boxed W (n₀ + 2) 22 (.slice (some ⟨n₀ + 1, 0, none⟩) l0.length l0.length)) ∧ Below n₀ w W) (fun _ _ _ => False) (pre ++ [x]) W .normal { tmps := #[], defers := [] } ((W.setCell ⟨n₀ + 1, i, none⟩ (.int .i64 (am / v))).drew.setCell ⟨n₀, 0, none⟩ (.int .i64 (am % v))) := by
      have hgs : coins_greedy.gf a1 (pre ++ [x]) = ((coins_greedy.gf a1 pre).1.set i (am / v), am % v) := by
        rw [coins_greedy.gf_snoc]
        simp only [coins_greedy.gstep, HXI.out, HXV.out, HAM.out, Int.toNat_natCast]
      have b1 : Below n₀ W (W.setCell ⟨n₀ + 1, i, none⟩ (.int .i64 (am / v))) := (Below.refl n₀ W).setCell (p := ⟨n₀ + 1, i, none⟩) (Nat.le_succ _) _
      have b3 : Below n₀ W ((W.setCell ⟨n₀ + 1, i, none⟩ (.int .i64 (am / v))).drew.setCell ⟨n₀, 0, none⟩ (.int .i64 (am % v))) := (below_drew b1).setCell (p := ⟨n₀, 0, none⟩) (Nat.le_refl _) _
      have hh : ∀ k, k ≠ n₀ → k ≠ n₀ + 1 → ((W.setCell ⟨n₀ + 1, i, none⟩ (.int .i64 (am / v))).drew.setCell ⟨n₀, 0, none⟩ (.int .i64 (am % v))).heap[k]? = W.heap[k]? := fun k h1 h2 => (Below.heap_setCell _ _ _ k h1).trans (Below.heap_setCell _ _ _ k h2)
      refine ⟨(((KeepsOthers.setCell W _ _).trans (KeepsOthers.drew _)).trans (KeepsOthers.setCell _ _ _)).from _, ⟨b3, hh _ (by omega) (by omega)⟩, ⟨?_, ?_, ?_⟩, hB.trans b3⟩
      · rw [hgs]
        have h1 : Boxed (W.setCell ⟨n₀ + 1, i, none⟩ (.int .i64 (am / v))).drew n₀ 3 (.int .i64 (coins_greedy.gf a1 pre).2) := (Below.heap_setCell _ _ _ n₀ (by simp)).trans hA
        exact h1.set _
      · rw [hgs]
        have h1 : Blk (W.setCell ⟨n₀ + 1, i, none⟩ (.int .i64 (am / v))).drew (n₀ + 1) 3 (((coins_greedy.gf a1 pre).1.map (.int .i64)).set i (.int .i64 (am / v))) := Blk.set hC i _
        rw [List.map_set]
        exact (Below.heap_setCell _ _ _ (n₀ + 1) (by simp)).trans h1
      · exact (hh (n₀ + 2) (by omega) (by omega)).trans hO
    have HFIN := Lib.hid hfin
    clear hfin
    gi_wp2
    gi_region
    all_goals gi_wp2
    all_goals exact HFIN.out
  case done =>
    rintro D ys W hD rfl ⟨⟨hA, hC, hO⟩, hB⟩ hK
    have hOc := hO.cell
    gi_wp2
    refine ⟨by simp, .inl ⟨_, _, rfl, run_takeDeferred hK, ?_⟩⟩
    rw [coins_greedy.gf_upto l0 HV.out a1 _ (Nat.le_refl _), coins_greedy.gst_all] at hC
    refine ⟨_, results_tmp rfl _ _ _, _, rfl, ?_, ?_⟩
    · have := R_of_blk (base := w.heap.size) (hC.kept (grownBy_putObj' W D (.deferred none)) (by intro e; cases e; omega)) (by omega) (by rw [coins_greedy.gl_len]; omega)
      rw [coins_greedy.gl_len] at this
      exact this
    · rw [hn₀]
      exact hB.trans (belowK_b (w := W1) (by omega) W D _ _ (by omega) hK rfl rfl)
theorem coins_greedy.calls (k : Nat) (A0 : Option Addr) (c0 : Nat) (l0 : List Int) (a1 : Int) (r : List Int) (w : World) (hr0 : Kd.C (Kd.int .i64) w A0 l0.length l0) (hc0 : l0.length ≤ c0) (h : coins_greedy.f k l0 a1 = some r) :
    Calls Try.prog 31 #[.slice A0 l0.length c0, .int .i64 a1] w fun e w' => ∃ v0_ : Value, e = .returned (v0_) ∧ Kd.R (Kd.int .i64) 3 w' w.heap.size (fun _ => True) v0_ r ∧ Below w.heap.size w w' := by
  unfold coins_greedy.f at h
  split at h
  · rename_i hc
    obtain rfl := Option.some.inj h
    exact coins_greedy.walk A0 c0 l0 a1 w hr0 hc0 hc.1 hc.2.1 hc.2.2.1 hc.2.2.2
  · cases h
end


/-! ### coins_Greedy: function 13 -/
def coins_Greedy.f (k : Nat) (l0 : List Int) (a1 : Int) : Option (List Int × Int) := (coins_looked.f k l0 a1 1152921504606846976).bind fun t111 => (if t111 = 0 then ((coins_greedy.f k l0 a1).bind fun t112 => (some (t112, 0))) else (some (([] : List Int), t111)))
theorem coins_Greedy.mono : ∀ a0 a1 k, LeO (coins_Greedy.f k a0 a1) (coins_Greedy.f (k + 1) a0 a1) := by
  intro a0 a1 k
  unfold coins_Greedy.f
  repeat' first
      | (with_reducible exact coins_greedy.mono _ _ _)
      | (with_reducible exact coins_looked.mono _ _ _ _)
      | (with_reducible exact LeO.refl _)
      | (with_reducible exact LeO.none _)
      | (with_reducible refine LeO.ite ?_ ?_)
      | (with_reducible refine LeO.bind ?_ (fun _ => ?_))
      | exact coins_greedy.mono _ _ _
      | exact coins_looked.mono _ _ _ _
      | exact LeO.none _
      | refine LeO.ite ?_ ?_
      | refine LeO.bind ?_ (fun _ => ?_)
set_option maxHeartbeats 8000000 in
set_option maxRecDepth 100000 in
theorem coins_Greedy.calls (k : Nat) (A0 : Option Addr) (c0 : Nat) (l0 : List Int) (a1 : Int) (r1 : List Int) (r2 : Int) (w : World) (hr0 : Kd.C (Kd.int .i64) w A0 l0.length l0) (hc0 : l0.length ≤ c0) (h : coins_Greedy.f k l0 a1 = some (r1, r2)) :
    Calls Try.prog 13 #[.slice A0 l0.length c0, .int .i64 a1] w fun e w' => ∃ v0_ : Value, e = .returned (.tuple #[v0_, .int .i64 r2]) ∧ Kd.R (Kd.int .i64) 3 w' w.heap.size (fun _ => True) v0_ r1 ∧ Below w.heap.size w w' := by
  have HR0 := Aside0.mk hr0
  have HC0 := Aside0.mk hc0
  clear hr0 hc0
  have HB := Aside0.mk (Below.refl w.heap.size w)
  have H : ((coins_looked.f k l0 a1 1152921504606846976).bind fun t111 => (if t111 = 0 then ((coins_greedy.f k l0 a1).bind fun t112 => (some (t112, 0))) else (some (([] : List Int), t111)))) = some (r1, r2) := h
  clear h
  replace H := Option.bind_eq_some_iff.mp H
  obtain ⟨t111, A30, H⟩ := H
  replace H : (if t111 = 0 then ((coins_greedy.f k l0 a1).bind fun t112 => (some (t112, 0))) else (some (([] : List Int), t111))) = some (r1, r2) := H
  have A3 := Aside0.mk A30
  clear A30
  by_cases c4 : t111 = 0
  · rw [if_pos c4] at H
    have c4b0 : (t111 == 0) = true := beq_iff_eq.mpr c4
    have c4b1 : (t111 != 0) = false := bne_eq_false_iff_eq.mpr c4
    clear c4
    replace H := Option.bind_eq_some_iff.mp H
    obtain ⟨t112, A50, H⟩ := H
    replace H : (some (t112, 0)) = some (r1, r2) := H
    have A5 := Aside0.mk A50
    clear A50
    simp only [Option.some.injEq, Prod.mk.injEq] at H
    obtain ⟨rfl, rfl⟩ := H
    go_enter Try.func13, Try.ntmps13
    go_wp2_with (first | ((with_reducible refine gate_callee (f := 30) rfl ?_); refine goesL_ (some 9) rfl rfl Try.func30 (by kernel_rfl) rfl #[.slice A0 l0.length c0, .int .i64 a1, .int .i64 1152921504606846976] rfl (by (try simp only [List.map_toArray, List.map_cons, List.map_nil]); first | done | rfl | (simp only [List.length_drop, List.length_take]; rfl)) ?_; (with_reducible refine (coins_looked.calls k _ _ l0 a1 1152921504606846976 t111 _ ?side1 ?side2 A3.out).mono ?_); (case side1 => repeat (first | exact HR0.out | (with_reducible refine Kd.C_alloc ?_ _) | (with_reducible refine Kd.C_drewN ?_ _) | (with_reducible refine Kd.C_drew ?_))); (case side2 => exact HC0.out); rintro e w' ⟨rfl, ⟨nd, rfl⟩⟩; refine ⟨_, rfl, ?_⟩) | ((with_reducible refine gate_callee (f := 31) rfl ?_); refine goesL_ (some 15) rfl rfl Try.func31 (by kernel_rfl) rfl #[.slice A0 l0.length c0, .int .i64 a1] rfl (by (try simp only [List.map_toArray, List.map_cons, List.map_nil]); first | done | rfl | (simp only [List.length_drop, List.length_take]; rfl)) ?_; (with_reducible refine (coins_greedy.calls k _ _ l0 a1 t112 _ ?side1 ?side2 A5.out).mono ?_); (case side1 => repeat (first | exact HR0.out | (with_reducible refine Kd.C_alloc ?_ _) | (with_reducible refine Kd.C_drewN ?_ _) | (with_reducible refine Kd.C_drew ?_))); (case side2 => exact HC0.out); rintro e w6 ⟨v113, rfl, ho0, hb⟩; refine ⟨_, rfl, ?_⟩; have n0_ := Aside0.mk (Kd.R_lower ho0 (below_size (by repeat (first | (with_reducible first | exact HB.out | apply below_alloc | apply pw_below_drewN | apply below_drew1) | exact HB.out)))); have n1_ := Aside0.mk (below_step (by repeat (first | (with_reducible first | exact HB.out | apply below_alloc | apply pw_below_drewN | apply below_drew1) | exact HB.out)) hb); clear HB; have HO114 := n0_; have HB := n1_; clear n0_ n1_; (try clear hb); (try clear hb2); (try clear hk); (try clear hi); (try clear ho0)))
    go_ret2
    exact ⟨_, by first | rfl | (simp [errW_none, errW_some] <;> rfl) | (simp [*, errW_none, errW_some] <;> rfl), by (with_reducible repeat (first | apply Kd.R_alloc | apply Kd.R_drewN | apply Kd.R_drew)); exact HO114.out, by repeat (first | (with_reducible first | exact HB.out | apply below_alloc | apply pw_below_drewN | apply below_drew1) | exact HB.out)⟩
  · rw [if_neg c4] at H
    have c4b0 : (t111 == 0) = false := beq_eq_false_iff_ne.mpr c4
    have c4b1 : (t111 != 0) = true := bne_iff_ne.mpr c4
    simp only [Option.some.injEq, Prod.mk.injEq] at H
    obtain ⟨rfl, rfl⟩ := H
    go_enter Try.func13, Try.ntmps13
    go_wp2_with (first | ((with_reducible refine gate_callee (f := 30) rfl ?_); refine goesL_ (some 9) rfl rfl Try.func30 (by kernel_rfl) rfl #[.slice A0 l0.length c0, .int .i64 a1, .int .i64 1152921504606846976] rfl (by (try simp only [List.map_toArray, List.map_cons, List.map_nil]); first | done | rfl | (simp only [List.length_drop, List.length_take]; rfl)) ?_; (with_reducible refine (coins_looked.calls k _ _ l0 a1 1152921504606846976 t111 _ ?side1 ?side2 A3.out).mono ?_); (case side1 => repeat (first | exact HR0.out | (with_reducible refine Kd.C_alloc ?_ _) | (with_reducible refine Kd.C_drewN ?_ _) | (with_reducible refine Kd.C_drew ?_))); (case side2 => exact HC0.out); rintro e w' ⟨rfl, ⟨nd, rfl⟩⟩; refine ⟨_, rfl, ?_⟩))
    go_ret2
    exact ⟨_, by first | rfl | (simp [errW_none, errW_some] <;> rfl) | (simp [*, errW_none, errW_some] <;> rfl), by first | exact Kd.R_nil _ _ _ _ _ | exact Kd.N_nil _ _ _ _ _ | exact Kd.V_nil _ _ _ _ _ | exact Kd.Q_nil _ _ _ _ _ | exact Kd.S_nil _ _ _ _ _, by repeat (first | (with_reducible first | exact HB.out | apply below_alloc | apply pw_below_drewN | apply below_drew1) | exact HB.out)⟩

/-! ### pomadelaw05_same: function 15 -/
def pomadelaw05_same.l0 : Nat → List Int → List Int → Int → Option (Bool)
  | 0, _, _, _ => none
  | k + 1, x0, x1, x5 => if x5 < (x0.length : Int) then (if 0 ≤ x5 then (if x5 < (x1.length : Int) then (if (rd x0 x5) = (rd x1 x5) then (pomadelaw05_same.l0 k x0 x1 (wrap64 (x5 + 1))) else (some false)) else (none)) else (none)) else (some true)
def pomadelaw05_same.f (k : Nat) (l0 : List Int) (l1 : List Int) : Option (Bool) := if (l0.length : Int) = (l1.length : Int) then (pomadelaw05_same.l0 k l0 l1 0) else (some false)
theorem pomadelaw05_same.mono_l : ∀ k, (∀ y0 y1 y2, LeO (pomadelaw05_same.l0 k y0 y1 y2) (pomadelaw05_same.l0 (k + 1) y0 y1 y2))
  | 0 => fun _ _ _ r h => by simp [pomadelaw05_same.l0] at h
  | k + 1 => by
    have ih0 := pomadelaw05_same.mono_l k
    · intro y0 y1 y2
      unfold pomadelaw05_same.l0
      repeat' first
      | (with_reducible exact ih0 _ _ _)
      | (with_reducible exact LeO.refl _)
      | (with_reducible exact LeO.none _)
      | (with_reducible refine LeO.ite ?_ ?_)
      | (with_reducible refine LeO.bind ?_ (fun _ => ?_))
      | exact ih0 _ _ _
      | exact LeO.none _
      | refine LeO.ite ?_ ?_
      | refine LeO.bind ?_ (fun _ => ?_)
theorem pomadelaw05_same.mono : ∀ a0 a1 k, LeO (pomadelaw05_same.f k a0 a1) (pomadelaw05_same.f (k + 1) a0 a1) := by
  intro a0 a1 k
  have ih0 := pomadelaw05_same.mono_l k
  unfold pomadelaw05_same.f
  repeat' first
      | (with_reducible exact ih0 _ _ _)
      | (with_reducible exact LeO.refl _)
      | (with_reducible exact LeO.none _)
      | (with_reducible refine LeO.ite ?_ ?_)
      | (with_reducible refine LeO.bind ?_ (fun _ => ?_))
      | exact ih0 _ _ _
      | exact LeO.none _
      | refine LeO.ite ?_ ?_
      | refine LeO.bind ?_ (fun _ => ?_)
set_option maxHeartbeats 8000000 in
set_option maxRecDepth 100000 in
theorem pomadelaw05_same.calls (k : Nat) (A0 : Option Addr) (c0 : Nat) (l0 : List Int) (A1 : Option Addr) (c1 : Nat) (l1 : List Int) (r : Bool) (w : World) (hr0 : Kd.C (Kd.int .i64) w A0 l0.length l0) (hc0 : l0.length ≤ c0) (hr1 : Kd.C (Kd.int .i64) w A1 l1.length l1) (hc1 : l1.length ≤ c1) (h : pomadelaw05_same.f k l0 l1 = some r) :
    Calls Try.prog 15 #[.slice A0 l0.length c0, .slice A1 l1.length c1] w fun e w' => e = .returned (.bool r) ∧ Drawn0 w w' := by
  have HR0 := Aside0.mk hr0
  have HC0 := Aside0.mk hc0
  clear hr0 hc0
  have HR1 := Aside0.mk hr1
  have HC1 := Aside0.mk hc1
  clear hr1 hc1
  have H : (if (l0.length : Int) = (l1.length : Int) then (pomadelaw05_same.l0 k l0 l1 0) else (some false)) = some r := h
  clear h
  by_cases c3 : (l0.length : Int) = (l1.length : Int)
  · rw [if_pos c3] at H
    have c3b0 : ((l0.length : Int) == (l1.length : Int)) = true := beq_iff_eq.mpr c3
    have c3b1 : ((l0.length : Int) != (l1.length : Int)) = false := bne_eq_false_iff_eq.mpr c3
    have c3b2 : (l0.length == l1.length) = true := by first | simpa using c3 | (simp at c3 ⊢; omega)
    clear c3
    have H' := Aside0.mk H
    clear H
    go_enter Try.func15, Try.ntmps15
    go_wp2
    repeat (go_quiet (fail); try go_wp2)
    go_loopg [5] k (fun kq v5 w' => ∃ (x5_1 : Int), v5 = .int .i64 x5_1 ∧ Aside0 (pomadelaw05_same.l0 kq l0 l1 x5_1 = some r) ∧ Aside0 (kq ≤ k) ∧ Drawn0 w w')
    case atStart => exact ⟨(0), (by first | rfl | (simp; done) | (simp [*]; done)), H', ⟨Nat.le_refl _⟩, by repeat (first | exact Drawn0.refl _ | apply Drawn0.step)⟩
    case round =>
      clear H'
      try clear c1
      try clear p2
      try clear c3
      try clear c3b0
      try clear c3b1
      try clear c3b2
      obtain ⟨x5_1, rfl, HA, HK1, ⟨m1, rfl⟩⟩ := hrel
      cases gk with
      | zero => exact absurd HA.out (by simp [pomadelaw05_same.l0])
      | succ k1 =>
        have H := HA.out
        clear HA
        simp only [pomadelaw05_same.l0] at H
        by_cases c4 : x5_1 < (l0.length : Int)
        · rw [if_pos c4] at H
          have c4b0 : decide (x5_1 < (l0.length : Int)) = true := decide_eq_true c4
          clear c4
          by_cases c5 : 0 ≤ x5_1
          · rw [if_pos c5] at H
            have c5b0 : decide (0 ≤ x5_1) = true := decide_eq_true c5
            clear c5
            by_cases c6 : x5_1 < (l1.length : Int)
            · rw [if_pos c6] at H
              have c6b0 : decide (x5_1 < (l1.length : Int)) = true := decide_eq_true c6
              clear c6
              by_cases c7 : (rd l0 x5_1) = (rd l1 x5_1)
              · rw [if_pos c7] at H
                have c7b0 : ((rd l0 x5_1) == (rd l1 x5_1)) = true := beq_iff_eq.mpr c7
                have c7b1 : ((rd l0 x5_1) != (rd l1 x5_1)) = false := bne_eq_false_iff_eq.mpr c7
                clear c7
                have H' := Aside0.mk H
                clear H
                have p115 : 0 ≤ (x5_1 : Int) := of_decide_eq_true (by first | (with_reducible assumption) | assumption)
                have q115 : x5_1 < (l0.length : Int) := of_decide_eq_true (by first | (with_reducible assumption) | assumption)
                obtain ⟨ad115, e115, hx115_0⟩ := Kd.at_int HR0.out x5_1 p115 q115
                cases e115
                replace p115 := eq_true p115
                replace q115 := eq_true q115
                have p116 : 0 ≤ (x5_1 : Int) := of_decide_eq_true (by first | (with_reducible assumption) | assumption)
                have q116 : x5_1 < (l1.length : Int) := of_decide_eq_true (by first | (with_reducible assumption) | assumption)
                obtain ⟨ad116, e116, hx116_0⟩ := Kd.at_int HR1.out x5_1 p116 q116
                cases e116
                replace p116 := eq_true p116
                replace q116 := eq_true q116
                go_wp2
                repeat (go_quiet (fail); try go_wp2)
                go_roundg k1
                case measure => have := HK1.out; omega
                case rel => exact ⟨(wrap64 (x5_1 + 1)), (by first | rfl | (simp; done) | (simp [*]; done)), H', ⟨by have := HK1.out; omega⟩, by repeat (first | exact Drawn0.refl _ | apply Drawn0.step)⟩
              · rw [if_neg c7] at H
                have c7b0 : ((rd l0 x5_1) == (rd l1 x5_1)) = false := beq_eq_false_iff_ne.mpr c7
                have c7b1 : ((rd l0 x5_1) != (rd l1 x5_1)) = true := bne_iff_ne.mpr c7
                obtain rfl := Option.some.inj H
                have p115 : 0 ≤ (x5_1 : Int) := of_decide_eq_true (by first | (with_reducible assumption) | assumption)
                have q115 : x5_1 < (l0.length : Int) := of_decide_eq_true (by first | (with_reducible assumption) | assumption)
                obtain ⟨ad115, e115, hx115_0⟩ := Kd.at_int HR0.out x5_1 p115 q115
                cases e115
                replace p115 := eq_true p115
                replace q115 := eq_true q115
                have p116 : 0 ≤ (x5_1 : Int) := of_decide_eq_true (by first | (with_reducible assumption) | assumption)
                have q116 : x5_1 < (l1.length : Int) := of_decide_eq_true (by first | (with_reducible assumption) | assumption)
                obtain ⟨ad116, e116, hx116_0⟩ := Kd.at_int HR1.out x5_1 p116 q116
                cases e116
                replace p116 := eq_true p116
                replace q116 := eq_true q116
                go_wp2
                repeat (go_quiet (fail); try go_wp2)
                go_ret
                exact ⟨by first | rfl | (simp; done) | (simp [*]; done), by repeat (first | exact Drawn0.refl _ | apply Drawn0.step)⟩
            · rw [if_neg c6] at H
              exact absurd H (by simp)
          · rw [if_neg c5] at H
            exact absurd H (by simp)
        · rw [if_neg c4] at H
          have c4b0 : decide (x5_1 < (l0.length : Int)) = false := decide_eq_false c4
          clear c4
          obtain rfl := Option.some.inj H
          go_wp2
          repeat (go_quiet (fail); try go_wp2)
          go_ret
          exact ⟨by first | rfl | (simp; done) | (simp [*]; done), by repeat (first | exact Drawn0.refl _ | apply Drawn0.step)⟩
  · rw [if_neg c3] at H
    have c3b0 : ((l0.length : Int) == (l1.length : Int)) = false := beq_eq_false_iff_ne.mpr c3
    have c3b1 : ((l0.length : Int) != (l1.length : Int)) = true := bne_iff_ne.mpr c3
    have c3b2 : (l0.length == l1.length) = false := by first | simpa using c3 | (simp at c3 ⊢; omega)
    obtain rfl := Option.some.inj H
    go_enter Try.func15, Try.ntmps15
    go_wp2
    repeat (go_quiet (fail); try go_wp2)
    go_ret
    exact ⟨by first | rfl | (simp; done) | (simp [*]; done), by repeat (first | exact Drawn0.refl _ | apply Drawn0.step)⟩

end Go.Proofs.Ytgbalmjnjpfopaa.PC
