/- Parts of the proof of LawPlaitPowers, one behind the other: PCg3 PCg8 PCf39 MShort. -/
import Derived.Test.YtjfkompfkgjdaaaJPlaitPowers2
section
namespace Go.Proofs.Ytjfkompfkgjdaaa.PC
open Go.RowKit Go.Proofs.YtjfkompfkgjdaaaW.PrintWords Go.Proofs.YtjfkompfkgjdaaaW.PrintLast Go.Proofs.YtjfkompfkgjdaaaW.PrintMore
attribute [local go_sem] max2_int min2_int max_two min_two max_three min_three max_four min_four   -- for this text's walks alone
set_option linter.unusedVariables false
set_option linter.unusedSimpArgs false
/-! ### pomaderef07_border: function 53 -/
def pomaderef07_border.f (a0 : Int) (a1 : Int) : Option (Int) := if a1 < a0 then (some a1) else (some (wrap64 ((wrap64 ((wrap64 (3 * a0)) - 1)) - a1)))
set_option maxHeartbeats 8000000 in
set_option maxRecDepth 100000 in
theorem pomaderef07_border.calls (a0 : Int) (a1 : Int) (r : Int) (w : World) (h : pomaderef07_border.f a0 a1 = some r) :
    Calls Try.prog 53 #[.int .i64 a0, .int .i64 a1] w fun e w' => e = .returned (.int .i64 r) ∧ Drawn0 w w' := by
  have H : (if a1 < a0 then (some a1) else (some (wrap64 ((wrap64 ((wrap64 (3 * a0)) - 1)) - a1)))) = some r := h
  clear h
  by_cases c3 : a1 < a0
  · rw [if_pos c3] at H
    have c3b0 : decide (a1 < a0) = true := decide_eq_true c3
    clear c3
    obtain rfl := Option.some.inj H
    go_enter Try.func53, Try.ntmps53
    go_wp2
    go_ret
    exact ⟨by first | rfl | (simp; done) | (simp [*]; done), by repeat (first | exact Drawn0.refl _ | apply Drawn0.step)⟩
  · rw [if_neg c3] at H
    have c3b0 : decide (a1 < a0) = false := decide_eq_false c3
    clear c3
    obtain rfl := Option.some.inj H
    go_enter Try.func53, Try.ntmps53
    go_wp2
    go_ret
    exact ⟨by first | rfl | (simp; done) | (simp [*]; done), by repeat (first | exact Drawn0.refl _ | apply Drawn0.step)⟩
/-! ### pomaderef07_Diagram: function 19 -/
mutual
def pomaderef07_Diagram.j0 : Nat → List Int → Int → Bool → Option (Int)
  | 0, _, _, _ => none
  | k + 1, x0, x3, x24 => if x24 = true then (some 2) else (pomaderef07_Diagram.l0 k x0 x3 0)
def pomaderef07_Diagram.l0 : Nat → List Int → Int → Int → Option (Int)
  | 0, _, _, _ => none
  | k + 1, x0, x3, x4 => if x4 < (x0.length : Int) then (if 0 ≤ x4 then (if (rd x0 x4) < 0 then (some 2) else (if (rd x0 x4) ≥ (x0.length : Int) then (some 2) else (if (rd x0 x4) = x4 then (some 2) else (if 0 ≤ (rd x0 x4) then (if (rd x0 x4) < (x0.length : Int) then (if (rd x0 (rd x0 x4)) = x4 then (pomaderef07_Diagram.l0 k x0 x3 (wrap64 (x4 + 1))) else (some 2)) else (none)) else (none))))) else (none)) else (pomaderef07_Diagram.l1 k x0 x3 0)
def pomaderef07_Diagram.l1 : Nat → List Int → Int → Int → Option (Int)
  | 0, _, _, _ => none
  | k + 1, x0, x3, x5 => if x5 < (x0.length : Int) then (pomaderef07_Diagram.l2 k x0 x3 x5 0) else (some 0)
def pomaderef07_Diagram.l2 : Nat → List Int → Int → Int → Int → Option (Int)
  | 0, _, _, _, _ => none
  | k + 1, x0, x3, x5, x6 => if x6 < (x0.length : Int) then ((pomaderef07_border.f x3 x5).bind fun t269 => (if 0 ≤ x5 then (if x5 < (x0.length : Int) then ((pomaderef07_border.f x3 (rd x0 x5)).bind fun t271 => ((pomaderef07_border.f x3 x6).bind fun t272 => (if 0 ≤ x6 then ((pomaderef07_border.f x3 (rd x0 x6)).bind fun t274 => (if t269 < t272 then (if t272 < t271 then (if t271 < t274 then (some 2) else (pomaderef07_Diagram.l2 k x0 x3 x5 (wrap64 (x6 + 1)))) else (pomaderef07_Diagram.l2 k x0 x3 x5 (wrap64 (x6 + 1)))) else (pomaderef07_Diagram.l2 k x0 x3 x5 (wrap64 (x6 + 1))))) else (none)))) else (none)) else (none))) else (pomaderef07_Diagram.l1 k x0 x3 (wrap64 (x5 + 1)))
end
def pomaderef07_Diagram.f (k : Nat) (l0 : List Int) : Option (Int) := if (l0.length : Int) > 20 then (some 3) else (if (wrap64 ((l0.length : Int) / 2)) < 1 then (pomaderef07_Diagram.j0 k l0 (wrap64 ((l0.length : Int) / 2)) true) else (pomaderef07_Diagram.j0 k l0 (wrap64 ((l0.length : Int) / 2)) (((l0.length : Int) % 2) == 1)))
theorem pomaderef07_Diagram.mono_l : ∀ k, (∀ y0 y1 y2, LeO (pomaderef07_Diagram.j0 k y0 y1 y2) (pomaderef07_Diagram.j0 (k + 1) y0 y1 y2)) ∧ (∀ y0 y1 y2, LeO (pomaderef07_Diagram.l0 k y0 y1 y2) (pomaderef07_Diagram.l0 (k + 1) y0 y1 y2)) ∧ (∀ y0 y1 y2, LeO (pomaderef07_Diagram.l1 k y0 y1 y2) (pomaderef07_Diagram.l1 (k + 1) y0 y1 y2)) ∧ (∀ y0 y1 y2 y3, LeO (pomaderef07_Diagram.l2 k y0 y1 y2 y3) (pomaderef07_Diagram.l2 (k + 1) y0 y1 y2 y3))
  | 0 => ⟨fun _ _ _ r h => by simp [pomaderef07_Diagram.j0] at h, fun _ _ _ r h => by simp [pomaderef07_Diagram.l0] at h, fun _ _ _ r h => by simp [pomaderef07_Diagram.l1] at h, fun _ _ _ _ r h => by simp [pomaderef07_Diagram.l2] at h⟩
  | k + 1 => by
    obtain ⟨ih0, ih1, ih2, ih3⟩ := pomaderef07_Diagram.mono_l k
    refine ⟨?_, ?_, ?_, ?_⟩
    · intro y0 y1 y2
      unfold pomaderef07_Diagram.j0
      repeat' first
      | (with_reducible exact ih0 _ _ _)
      | (with_reducible exact ih1 _ _ _)
      | (with_reducible exact ih2 _ _ _)
      | (with_reducible exact ih3 _ _ _ _)
      | (with_reducible exact LeO.refl _)
      | (with_reducible exact LeO.none _)
      | (with_reducible refine LeO.ite ?_ ?_)
      | (with_reducible refine LeO.bind ?_ (fun _ => ?_))
      | exact ih0 _ _ _
      | exact ih1 _ _ _
      | exact ih2 _ _ _
      | exact ih3 _ _ _ _
      | exact LeO.none _
      | refine LeO.ite ?_ ?_
      | refine LeO.bind ?_ (fun _ => ?_)
    · intro y0 y1 y2
      unfold pomaderef07_Diagram.l0
      repeat' first
      | (with_reducible exact ih0 _ _ _)
      | (with_reducible exact ih1 _ _ _)
      | (with_reducible exact ih2 _ _ _)
      | (with_reducible exact ih3 _ _ _ _)
      | (with_reducible exact LeO.refl _)
      | (with_reducible exact LeO.none _)
      | (with_reducible refine LeO.ite ?_ ?_)
      | (with_reducible refine LeO.bind ?_ (fun _ => ?_))
      | exact ih0 _ _ _
      | exact ih1 _ _ _
      | exact ih2 _ _ _
      | exact ih3 _ _ _ _
      | exact LeO.none _
      | refine LeO.ite ?_ ?_
      | refine LeO.bind ?_ (fun _ => ?_)
    · intro y0 y1 y2
      unfold pomaderef07_Diagram.l1
      repeat' first
      | (with_reducible exact ih0 _ _ _)
      | (with_reducible exact ih1 _ _ _)
      | (with_reducible exact ih2 _ _ _)
      | (with_reducible exact ih3 _ _ _ _)
      | (with_reducible exact LeO.refl _)
      | (with_reducible exact LeO.none _)
      | (with_reducible refine LeO.ite ?_ ?_)
      | (with_reducible refine LeO.bind ?_ (fun _ => ?_))
      | exact ih0 _ _ _
      | exact ih1 _ _ _
      | exact ih2 _ _ _
      | exact ih3 _ _ _ _
      | exact LeO.none _
      | refine LeO.ite ?_ ?_
      | refine LeO.bind ?_ (fun _ => ?_)
    · intro y0 y1 y2 y3
      unfold pomaderef07_Diagram.l2
      repeat' first
      | (with_reducible exact ih0 _ _ _)
      | (with_reducible exact ih1 _ _ _)
      | (with_reducible exact ih2 _ _ _)
      | (with_reducible exact ih3 _ _ _ _)
      | (with_reducible exact LeO.refl _)
      | (with_reducible exact LeO.none _)
      | (with_reducible refine LeO.ite ?_ ?_)
      | (with_reducible refine LeO.bind ?_ (fun _ => ?_))
      | exact ih0 _ _ _
      | exact ih1 _ _ _
      | exact ih2 _ _ _
      | exact ih3 _ _ _ _
      | exact LeO.none _
      | refine LeO.ite ?_ ?_
      | refine LeO.bind ?_ (fun _ => ?_)
theorem pomaderef07_Diagram.mono : ∀ a0 k, LeO (pomaderef07_Diagram.f k a0) (pomaderef07_Diagram.f (k + 1) a0) := by
  intro a0 k
  obtain ⟨ih0, ih1, ih2, ih3⟩ := pomaderef07_Diagram.mono_l k
  unfold pomaderef07_Diagram.f
  repeat' first
      | (with_reducible exact ih0 _ _ _)
      | (with_reducible exact ih1 _ _ _)
      | (with_reducible exact ih2 _ _ _)
      | (with_reducible exact ih3 _ _ _ _)
      | (with_reducible exact LeO.refl _)
      | (with_reducible exact LeO.none _)
      | (with_reducible refine LeO.ite ?_ ?_)
      | (with_reducible refine LeO.bind ?_ (fun _ => ?_))
      | exact ih0 _ _ _
      | exact ih1 _ _ _
      | exact ih2 _ _ _
      | exact ih3 _ _ _ _
      | exact LeO.none _
      | refine LeO.ite ?_ ?_
      | refine LeO.bind ?_ (fun _ => ?_)
set_option maxHeartbeats 8000000 in
set_option maxRecDepth 100000 in
theorem pomaderef07_Diagram.calls (k : Nat) (A0 : Option Addr) (c0 : Nat) (l0 : List Int) (r : Int) (w : World) (hr0 : Kd.C (Kd.int .i64) w A0 l0.length l0) (hc0 : l0.length ≤ c0) (h : pomaderef07_Diagram.f k l0 = some r) :
    Calls Try.prog 19 #[.slice A0 l0.length c0] w fun e w' => e = .returned (.int .i64 r) ∧ Drawn0 w w' := by
  have HR0 := Aside0.mk hr0
  have HC0 := Aside0.mk hc0
  clear hr0 hc0
  have H : (if (l0.length : Int) > 20 then (some 3) else (if (wrap64 ((l0.length : Int) / 2)) < 1 then (pomaderef07_Diagram.j0 k l0 (wrap64 ((l0.length : Int) / 2)) true) else (pomaderef07_Diagram.j0 k l0 (wrap64 ((l0.length : Int) / 2)) (((l0.length : Int) % 2) == 1)))) = some r := h
  clear h
  by_cases c2 : (l0.length : Int) > 20
  · rw [if_pos c2] at H
    have c2b0 : decide (20 < (l0.length : Int)) = true := decide_eq_true c2
    have c2b1 : decide (20 < l0.length) = true := decide_eq_true (by omega)
    clear c2
    obtain rfl := Option.some.inj H
    go_enter Try.func19, Try.ntmps19
    go_wp2
    repeat (go_quiet (fail); try go_wp2)
    go_ret
    exact ⟨by first | rfl | (simp; done) | (simp [*]; done), by repeat (first | exact Drawn0.refl _ | apply Drawn0.step)⟩
  · rw [if_neg c2] at H
    have c2b0 : decide (20 < (l0.length : Int)) = false := decide_eq_false c2
    have c2b1 : decide (20 < l0.length) = false := decide_eq_false (by omega)
    clear c2
    have HC3 := Aside0.mk H
    clear H
    go_enter Try.func19, Try.ntmps19
    go_upto_region 4 with (fail)
    repeat (go_quiet (fail); go_upto_region 4 with (fail))
    go_cut [24] (fun v24 wc => ∃ (kq : Nat) (x24_2 : Bool), v24 = .bool x24_2 ∧ Aside0 (pomaderef07_Diagram.j0 kq l0 (wrap64 ((l0.length : Int) / 2)) x24_2 = some r) ∧ Aside0 (kq ≤ k) ∧ Drawn0 w wc)
    case first =>
      have H := HC3.out
      clear HC3
      by_cases c4 : (wrap64 ((l0.length : Int) / 2)) < 1
      · rw [if_pos c4] at H
        have c4b0 : decide ((wrap64 ((l0.length : Int) / 2)) < 1) = true := decide_eq_true c4
        clear c4
        (first | rw [c4b0] | (simp only [i64_w, i32_w]; rw [c4b0]) | skip)
        have H' := Aside0.mk H
        clear H
        go_wp2
        repeat (go_quiet (fail); try go_wp2)
        go_meet
        case rel => exact ⟨_, (true), (by first | rfl | (simp; done) | (simp [*]; done)), H', ⟨by first | omega | exact Nat.le_refl _⟩, by repeat (first | exact Drawn0.refl _ | apply Drawn0.step)⟩
      · rw [if_neg c4] at H
        have c4b0 : decide ((wrap64 ((l0.length : Int) / 2)) < 1) = false := decide_eq_false c4
        clear c4
        (first | rw [c4b0] | (simp only [i64_w, i32_w]; rw [c4b0]) | skip)
        have H' := Aside0.mk H
        clear H
        go_wp2
        repeat (go_quiet (fail); try go_wp2)
        go_meet
        case rel => exact ⟨_, ((((l0.length : Int) % 2) == 1)), (by first | rfl | (simp; done) | (simp [*]; done)), H', ⟨by first | omega | exact Nat.le_refl _⟩, by repeat (first | exact Drawn0.refl _ | apply Drawn0.step)⟩
    case rest =>
      clear HC3
      try clear c1
      try clear c2
      try clear c2b0
      try clear c2b1
      try clear p2
      try clear c4
      try clear c4b0
      obtain ⟨kq, x24_2, rfl, HA, HJ2, ⟨mc2, rfl⟩⟩ := hcut
      cases kq with
      | zero => exact absurd HA.out (by simp [pomaderef07_Diagram.j0])
      | succ kj2 =>
        have H := HA.out
        clear HA
        simp only [pomaderef07_Diagram.j0] at H
        by_cases c5 : x24_2 = true
        · subst c5
          have H1 : (some 2) = some r := by rw [if_pos rfl] at H; exact H
          clear H
          have H := H1
          clear H1
          obtain rfl := Option.some.inj H
          go_wp2
          repeat (go_quiet (fail); try go_wp2)
          go_ret
          exact ⟨by first | rfl | (simp; done) | (simp [*]; done), by repeat (first | exact Drawn0.refl _ | apply Drawn0.step)⟩
        · replace c5 := Bool.eq_false_iff.mpr c5
          subst c5
          have H1 : (pomaderef07_Diagram.l0 kj2 l0 (wrap64 ((l0.length : Int) / 2)) 0) = some r := by rw [if_neg (show ¬ (false = true) by decide)] at H; exact H
          clear H
          have H := H1
          clear H1
          have H' := Aside0.mk H
          clear H
          go_wp2
          repeat (go_quiet (fail); try go_wp2)
          go_loopg [4] kj2 (fun kq v4 w' => ∃ (x4_2 : Int), v4 = .int .i64 x4_2 ∧ Aside0 (pomaderef07_Diagram.l0 kq l0 (wrap64 ((l0.length : Int) / 2)) x4_2 = some r) ∧ Aside0 (kq ≤ kj2) ∧ Drawn0 w w')
          case atStart => exact ⟨(0), (by first | rfl | (simp; done) | (simp [*]; done)), H', ⟨Nat.le_refl _⟩, by repeat (first | exact Drawn0.refl _ | apply Drawn0.step)⟩
          case round =>
            clear H'
            try clear c1
            try clear c2
            try clear c2b0
            try clear c2b1
            try clear p2
            try clear c4
            try clear c4b0
            try clear c5
            try clear p2
            obtain ⟨x4_2, rfl, HA, HK2, ⟨m2, rfl⟩⟩ := hrel
            cases gk with
            | zero => exact absurd HA.out (by simp [pomaderef07_Diagram.l0])
            | succ k2 =>
              have H := HA.out
              clear HA
              simp only [pomaderef07_Diagram.l0] at H
              by_cases c6 : x4_2 < (l0.length : Int)
              · rw [if_pos c6] at H
                have c6b0 : decide (x4_2 < (l0.length : Int)) = true := decide_eq_true c6
                clear c6
                by_cases c7 : 0 ≤ x4_2
                · rw [if_pos c7] at H
                  have c7b0 : decide (0 ≤ x4_2) = true := decide_eq_true c7
                  clear c7
                  by_cases c8 : (rd l0 x4_2) < 0
                  · rw [if_pos c8] at H
                    have c8b0 : decide ((rd l0 x4_2) < 0) = true := decide_eq_true c8
                    clear c8
                    obtain rfl := Option.some.inj H
                    have p264 : 0 ≤ (x4_2 : Int) := of_decide_eq_true (by first | (with_reducible assumption) | assumption)
                    have q264 : x4_2 < (l0.length : Int) := of_decide_eq_true (by first | (with_reducible assumption) | assumption)
                    obtain ⟨ad264, e264, hx264_0⟩ := Kd.at_int HR0.out x4_2 p264 q264
                    cases e264
                    replace p264 := eq_true p264
                    replace q264 := eq_true q264
                    go_wp2
                    repeat (go_quiet (fail); try go_wp2)
                    go_ret
                    exact ⟨by first | rfl | (simp; done) | (simp [*]; done), by repeat (first | exact Drawn0.refl _ | apply Drawn0.step)⟩
                  · rw [if_neg c8] at H
                    have c8b0 : decide ((rd l0 x4_2) < 0) = false := decide_eq_false c8
                    clear c8
                    by_cases c9 : (rd l0 x4_2) ≥ (l0.length : Int)
                    · rw [if_pos c9] at H
                      have c9b0 : decide ((l0.length : Int) ≤ (rd l0 x4_2)) = true := decide_eq_true c9
                      clear c9
                      obtain rfl := Option.some.inj H
                      have p264 : 0 ≤ (x4_2 : Int) := of_decide_eq_true (by first | (with_reducible assumption) | assumption)
                      have q264 : x4_2 < (l0.length : Int) := of_decide_eq_true (by first | (with_reducible assumption) | assumption)
                      obtain ⟨ad264, e264, hx264_0⟩ := Kd.at_int HR0.out x4_2 p264 q264
                      cases e264
                      replace p264 := eq_true p264
                      replace q264 := eq_true q264
                      have p265 : 0 ≤ (x4_2 : Int) := of_decide_eq_true (by first | (with_reducible assumption) | assumption)
                      have q265 : x4_2 < (l0.length : Int) := of_decide_eq_true (by first | (with_reducible assumption) | assumption)
                      obtain ⟨ad265, e265, hx265_0⟩ := Kd.at_int HR0.out x4_2 p265 q265
                      obtain rfl : ad264 = ad265 := (by injection e265)
                      replace p265 := eq_true p265
                      replace q265 := eq_true q265
                      go_wp2
                      repeat (go_quiet (fail); try go_wp2)
                      go_ret
                      exact ⟨by first | rfl | (simp; done) | (simp [*]; done), by repeat (first | exact Drawn0.refl _ | apply Drawn0.step)⟩
                    · rw [if_neg c9] at H
                      have c9b0 : decide ((l0.length : Int) ≤ (rd l0 x4_2)) = false := decide_eq_false c9
                      clear c9
                      by_cases c10 : (rd l0 x4_2) = x4_2
                      · rw [if_pos c10] at H
                        have c10b0 : ((rd l0 x4_2) == x4_2) = true := beq_iff_eq.mpr c10
                        have c10b1 : ((rd l0 x4_2) != x4_2) = false := bne_eq_false_iff_eq.mpr c10
                        clear c10
                        obtain rfl := Option.some.inj H
                        have p264 : 0 ≤ (x4_2 : Int) := of_decide_eq_true (by first | (with_reducible assumption) | assumption)
                        have q264 : x4_2 < (l0.length : Int) := of_decide_eq_true (by first | (with_reducible assumption) | assumption)
                        obtain ⟨ad264, e264, hx264_0⟩ := Kd.at_int HR0.out x4_2 p264 q264
                        cases e264
                        replace p264 := eq_true p264
                        replace q264 := eq_true q264
                        have p265 : 0 ≤ (x4_2 : Int) := of_decide_eq_true (by first | (with_reducible assumption) | assumption)
                        have q265 : x4_2 < (l0.length : Int) := of_decide_eq_true (by first | (with_reducible assumption) | assumption)
                        obtain ⟨ad265, e265, hx265_0⟩ := Kd.at_int HR0.out x4_2 p265 q265
                        obtain rfl : ad264 = ad265 := (by injection e265)
                        replace p265 := eq_true p265
                        replace q265 := eq_true q265
                        have p266 : 0 ≤ (x4_2 : Int) := of_decide_eq_true (by first | (with_reducible assumption) | assumption)
                        have q266 : x4_2 < (l0.length : Int) := of_decide_eq_true (by first | (with_reducible assumption) | assumption)
                        obtain ⟨ad266, e266, hx266_0⟩ := Kd.at_int HR0.out x4_2 p266 q266
                        obtain rfl : ad264 = ad266 := (by injection e266)
                        replace p266 := eq_true p266
                        replace q266 := eq_true q266
                        go_wp2
                        repeat (go_quiet (fail); try go_wp2)
                        go_ret
                        exact ⟨by first | rfl | (simp; done) | (simp [*]; done), by repeat (first | exact Drawn0.refl _ | apply Drawn0.step)⟩
                      · rw [if_neg c10] at H
                        have c10b0 : ((rd l0 x4_2) == x4_2) = false := beq_eq_false_iff_ne.mpr c10
                        have c10b1 : ((rd l0 x4_2) != x4_2) = true := bne_iff_ne.mpr c10
                        by_cases c11 : 0 ≤ (rd l0 x4_2)
                        · rw [if_pos c11] at H
                          have c11b0 : decide (0 ≤ (rd l0 x4_2)) = true := decide_eq_true c11
                          clear c11
                          by_cases c12 : (rd l0 x4_2) < (l0.length : Int)
                          · rw [if_pos c12] at H
                            have c12b0 : decide ((rd l0 x4_2) < (l0.length : Int)) = true := decide_eq_true c12
                            clear c12
                            by_cases c13 : (rd l0 (rd l0 x4_2)) = x4_2
                            · rw [if_pos c13] at H
                              have c13b0 : ((rd l0 (rd l0 x4_2)) == x4_2) = true := beq_iff_eq.mpr c13
                              have c13b1 : ((rd l0 (rd l0 x4_2)) != x4_2) = false := bne_eq_false_iff_eq.mpr c13
                              clear c13
                              have H' := Aside0.mk H
                              clear H
                              have p264 : 0 ≤ (x4_2 : Int) := of_decide_eq_true (by first | (with_reducible assumption) | assumption)
                              have q264 : x4_2 < (l0.length : Int) := of_decide_eq_true (by first | (with_reducible assumption) | assumption)
                              obtain ⟨ad264, e264, hx264_0⟩ := Kd.at_int HR0.out x4_2 p264 q264
                              cases e264
                              replace p264 := eq_true p264
                              replace q264 := eq_true q264
                              have p265 : 0 ≤ (x4_2 : Int) := of_decide_eq_true (by first | (with_reducible assumption) | assumption)
                              have q265 : x4_2 < (l0.length : Int) := of_decide_eq_true (by first | (with_reducible assumption) | assumption)
                              obtain ⟨ad265, e265, hx265_0⟩ := Kd.at_int HR0.out x4_2 p265 q265
                              obtain rfl : ad264 = ad265 := (by injection e265)
                              replace p265 := eq_true p265
                              replace q265 := eq_true q265
                              have p266 : 0 ≤ (x4_2 : Int) := of_decide_eq_true (by first | (with_reducible assumption) | assumption)
                              have q266 : x4_2 < (l0.length : Int) := of_decide_eq_true (by first | (with_reducible assumption) | assumption)
                              obtain ⟨ad266, e266, hx266_0⟩ := Kd.at_int HR0.out x4_2 p266 q266
                              obtain rfl : ad264 = ad266 := (by injection e266)
                              replace p266 := eq_true p266
                              replace q266 := eq_true q266
                              have p267 : 0 ≤ (x4_2 : Int) := of_decide_eq_true (by first | (with_reducible assumption) | assumption)
                              have q267 : x4_2 < (l0.length : Int) := of_decide_eq_true (by first | (with_reducible assumption) | assumption)
                              obtain ⟨ad267, e267, hx267_0⟩ := Kd.at_int HR0.out x4_2 p267 q267
                              obtain rfl : ad264 = ad267 := (by injection e267)
                              replace p267 := eq_true p267
                              replace q267 := eq_true q267
                              have p268 : 0 ≤ ((rd l0 x4_2) : Int) := of_decide_eq_true (by first | (with_reducible assumption) | assumption)
                              have q268 : (rd l0 x4_2) < (l0.length : Int) := of_decide_eq_true (by first | (with_reducible assumption) | assumption)
                              obtain ⟨ad268, e268, hx268_0⟩ := Kd.at_int HR0.out (rd l0 x4_2) p268 q268
                              obtain rfl : ad264 = ad268 := (by injection e268)
                              replace p268 := eq_true p268
                              replace q268 := eq_true q268
                              go_wp2
                              repeat (go_quiet (fail); try go_wp2)
                              go_roundg k2
                              case measure => have := HJ2.out; have := HK2.out; omega
                              case rel => exact ⟨(wrap64 (x4_2 + 1)), (by first | rfl | (simp; done) | (simp [*]; done)), H', ⟨by have := HJ2.out; have := HK2.out; omega⟩, by repeat (first | exact Drawn0.refl _ | apply Drawn0.step)⟩
                            · rw [if_neg c13] at H
                              have c13b0 : ((rd l0 (rd l0 x4_2)) == x4_2) = false := beq_eq_false_iff_ne.mpr c13
                              have c13b1 : ((rd l0 (rd l0 x4_2)) != x4_2) = true := bne_iff_ne.mpr c13
                              obtain rfl := Option.some.inj H
                              have p264 : 0 ≤ (x4_2 : Int) := of_decide_eq_true (by first | (with_reducible assumption) | assumption)
                              have q264 : x4_2 < (l0.length : Int) := of_decide_eq_true (by first | (with_reducible assumption) | assumption)
                              obtain ⟨ad264, e264, hx264_0⟩ := Kd.at_int HR0.out x4_2 p264 q264
                              cases e264
                              replace p264 := eq_true p264
                              replace q264 := eq_true q264
                              have p265 : 0 ≤ (x4_2 : Int) := of_decide_eq_true (by first | (with_reducible assumption) | assumption)
                              have q265 : x4_2 < (l0.length : Int) := of_decide_eq_true (by first | (with_reducible assumption) | assumption)
                              obtain ⟨ad265, e265, hx265_0⟩ := Kd.at_int HR0.out x4_2 p265 q265
                              obtain rfl : ad264 = ad265 := (by injection e265)
                              replace p265 := eq_true p265
                              replace q265 := eq_true q265
                              have p266 : 0 ≤ (x4_2 : Int) := of_decide_eq_true (by first | (with_reducible assumption) | assumption)
                              have q266 : x4_2 < (l0.length : Int) := of_decide_eq_true (by first | (with_reducible assumption) | assumption)
                              obtain ⟨ad266, e266, hx266_0⟩ := Kd.at_int HR0.out x4_2 p266 q266
                              obtain rfl : ad264 = ad266 := (by injection e266)
                              replace p266 := eq_true p266
                              replace q266 := eq_true q266
                              have p267 : 0 ≤ (x4_2 : Int) := of_decide_eq_true (by first | (with_reducible assumption) | assumption)
                              have q267 : x4_2 < (l0.length : Int) := of_decide_eq_true (by first | (with_reducible assumption) | assumption)
                              obtain ⟨ad267, e267, hx267_0⟩ := Kd.at_int HR0.out x4_2 p267 q267
                              obtain rfl : ad264 = ad267 := (by injection e267)
                              replace p267 := eq_true p267
                              replace q267 := eq_true q267
                              have p268 : 0 ≤ ((rd l0 x4_2) : Int) := of_decide_eq_true (by first | (with_reducible assumption) | assumption)
                              have q268 : (rd l0 x4_2) < (l0.length : Int) := of_decide_eq_true (by first | (with_reducible assumption) | assumption)
                              obtain ⟨ad268, e268, hx268_0⟩ := Kd.at_int HR0.out (rd l0 x4_2) p268 q268
                              obtain rfl : ad264 = ad268 := (by injection e268)
                              replace p268 := eq_true p268
                              replace q268 := eq_true q268
                              go_wp2
                              repeat (go_quiet (fail); try go_wp2)
                              go_ret
                              exact ⟨by first | rfl | (simp; done) | (simp [*]; done), by repeat (first | exact Drawn0.refl _ | apply Drawn0.step)⟩
                          · rw [if_neg c12] at H
                            exact absurd H (by simp)
                        · rw [if_neg c11] at H
                          exact absurd H (by simp)
                · rw [if_neg c7] at H
                  exact absurd H (by simp)
              · rw [if_neg c6] at H
                have c6b0 : decide (x4_2 < (l0.length : Int)) = false := decide_eq_false c6
                clear c6
                have H' := Aside0.mk H
                clear H
                go_wp2
                repeat (go_quiet (fail); try go_wp2)
                go_loopg [5] k2 (fun kq v5 w' => ∃ (x5_3 : Int), v5 = .int .i64 x5_3 ∧ Aside0 (pomaderef07_Diagram.l1 kq l0 (wrap64 ((l0.length : Int) / 2)) x5_3 = some r) ∧ Aside0 (kq ≤ k2) ∧ Drawn0 w w')
                case atStart => exact ⟨(0), (by first | rfl | (simp; done) | (simp [*]; done)), H', ⟨Nat.le_refl _⟩, by repeat (first | exact Drawn0.refl _ | apply Drawn0.step)⟩
                case round =>
                  clear H'
                  try clear c1
                  try clear c2
                  try clear c2b0
                  try clear c2b1
                  try clear p2
                  try clear q2
                  try clear hx2
                  try clear c4
                  try clear c4b0
                  try clear c5
                  try clear c6
                  try clear c6b0
                  try clear p6
                  try clear c7
                  try clear c7b0
                  try clear c8
                  try clear c8b0
                  try clear c9
                  try clear c9b0
                  try clear c10
                  try clear c10b0
                  try clear c10b1
                  try clear c11
                  try clear c11b0
                  try clear c12
                  try clear c12b0
                  try clear c13
                  try clear c13b0
                  try clear c13b1
                  try clear hx264_0
                  try clear hx265_0
                  try clear hx266_0
                  try clear hx267_0
                  try clear hx268_0
                  try clear p2
                  try clear p264
                  try clear p265
                  try clear p266
                  try clear p267
                  try clear p268
                  try clear q264
                  try clear q265
                  try clear q266
                  try clear q267
                  try clear q268
                  obtain ⟨x5_3, rfl, HA, HK3, ⟨m3, rfl⟩⟩ := hrel
                  cases gk with
                  | zero => exact absurd HA.out (by simp [pomaderef07_Diagram.l1])
                  | succ k3 =>
                    have H := HA.out
                    clear HA
                    simp only [pomaderef07_Diagram.l1] at H
                    by_cases c14 : x5_3 < (l0.length : Int)
                    · rw [if_pos c14] at H
                      have c14b0 : decide (x5_3 < (l0.length : Int)) = true := decide_eq_true c14
                      clear c14
                      have H' := Aside0.mk H
                      clear H
                      go_wp2
                      repeat (go_quiet (fail); try go_wp2)
                      go_loopg [6] k3 (fun kq v6 w' => ∃ (x6_4 : Int), v6 = .int .i64 x6_4 ∧ Aside0 (pomaderef07_Diagram.l2 kq l0 (wrap64 ((l0.length : Int) / 2)) x5_3 x6_4 = some r) ∧ Aside0 (kq ≤ k3) ∧ Drawn0 w w')
                      case atStart => exact ⟨(0), (by first | rfl | (simp; done) | (simp [*]; done)), H', ⟨Nat.le_refl _⟩, by repeat (first | exact Drawn0.refl _ | apply Drawn0.step)⟩
                      case round =>
                        clear H'
                        try clear c1
                        try clear c2
                        try clear c2b0
                        try clear c2b1
                        try clear p2
                        try clear q2
                        try clear hx2
                        try clear c4
                        try clear c4b0
                        try clear c5
                        try clear c6
                        try clear c6b0
                        try clear p6
                        try clear c7
                        try clear c7b0
                        try clear c8
                        try clear c8b0
                        try clear c9
                        try clear c9b0
                        try clear c10
                        try clear c10b0
                        try clear c10b1
                        try clear c11
                        try clear c11b0
                        try clear c12
                        try clear c12b0
                        try clear c13
                        try clear c13b0
                        try clear c13b1
                        try clear c14
                        try clear c14b0
                        try clear hx264_0
                        try clear hx265_0
                        try clear hx266_0
                        try clear hx267_0
                        try clear hx268_0
                        try clear p2
                        try clear p264
                        try clear p265
                        try clear p266
                        try clear p267
                        try clear p268
                        try clear p6
                        try clear q2
                        try clear q264
                        try clear q265
                        try clear q266
                        try clear q267
                        try clear q268
                        obtain ⟨x6_4, rfl, HA, HK4, ⟨m4, rfl⟩⟩ := hrel
                        cases gk with
                        | zero => exact absurd HA.out (by simp [pomaderef07_Diagram.l2])
                        | succ k4 =>
                          have H := HA.out
                          clear HA
                          simp only [pomaderef07_Diagram.l2] at H
                          by_cases c15 : x6_4 < (l0.length : Int)
                          · rw [if_pos c15] at H
                            have c15b0 : decide (x6_4 < (l0.length : Int)) = true := decide_eq_true c15
                            clear c15
                            replace H := Option.bind_eq_some_iff.mp H
                            obtain ⟨t269, A160, H⟩ := H
                            replace H : (if 0 ≤ x5_3 then (if x5_3 < (l0.length : Int) then ((pomaderef07_border.f (wrap64 ((l0.length : Int) / 2)) (rd l0 x5_3)).bind fun t271 => ((pomaderef07_border.f (wrap64 ((l0.length : Int) / 2)) x6_4).bind fun t272 => (if 0 ≤ x6_4 then ((pomaderef07_border.f (wrap64 ((l0.length : Int) / 2)) (rd l0 x6_4)).bind fun t274 => (if t269 < t272 then (if t272 < t271 then (if t271 < t274 then (some 2) else (pomaderef07_Diagram.l2 k4 l0 (wrap64 ((l0.length : Int) / 2)) x5_3 (wrap64 (x6_4 + 1)))) else (pomaderef07_Diagram.l2 k4 l0 (wrap64 ((l0.length : Int) / 2)) x5_3 (wrap64 (x6_4 + 1)))) else (pomaderef07_Diagram.l2 k4 l0 (wrap64 ((l0.length : Int) / 2)) x5_3 (wrap64 (x6_4 + 1))))) else (none)))) else (none)) else (none)) = some r := H
                            have A16 := Aside0.mk A160
                            clear A160
                            by_cases c17 : 0 ≤ x5_3
                            · rw [if_pos c17] at H
                              have c17b0 : decide (0 ≤ x5_3) = true := decide_eq_true c17
                              clear c17
                              by_cases c18 : x5_3 < (l0.length : Int)
                              · rw [if_pos c18] at H
                                have c18b0 : decide (x5_3 < (l0.length : Int)) = true := decide_eq_true c18
                                clear c18
                                replace H := Option.bind_eq_some_iff.mp H
                                obtain ⟨t271, A190, H⟩ := H
                                replace H : ((pomaderef07_border.f (wrap64 ((l0.length : Int) / 2)) x6_4).bind fun t272 => (if 0 ≤ x6_4 then ((pomaderef07_border.f (wrap64 ((l0.length : Int) / 2)) (rd l0 x6_4)).bind fun t274 => (if t269 < t272 then (if t272 < t271 then (if t271 < t274 then (some 2) else (pomaderef07_Diagram.l2 k4 l0 (wrap64 ((l0.length : Int) / 2)) x5_3 (wrap64 (x6_4 + 1)))) else (pomaderef07_Diagram.l2 k4 l0 (wrap64 ((l0.length : Int) / 2)) x5_3 (wrap64 (x6_4 + 1)))) else (pomaderef07_Diagram.l2 k4 l0 (wrap64 ((l0.length : Int) / 2)) x5_3 (wrap64 (x6_4 + 1))))) else (none))) = some r := H
                                have A19 := Aside0.mk A190
                                clear A190
                                replace H := Option.bind_eq_some_iff.mp H
                                obtain ⟨t272, A200, H⟩ := H
                                replace H : (if 0 ≤ x6_4 then ((pomaderef07_border.f (wrap64 ((l0.length : Int) / 2)) (rd l0 x6_4)).bind fun t274 => (if t269 < t272 then (if t272 < t271 then (if t271 < t274 then (some 2) else (pomaderef07_Diagram.l2 k4 l0 (wrap64 ((l0.length : Int) / 2)) x5_3 (wrap64 (x6_4 + 1)))) else (pomaderef07_Diagram.l2 k4 l0 (wrap64 ((l0.length : Int) / 2)) x5_3 (wrap64 (x6_4 + 1)))) else (pomaderef07_Diagram.l2 k4 l0 (wrap64 ((l0.length : Int) / 2)) x5_3 (wrap64 (x6_4 + 1))))) else (none)) = some r := H
                                have A20 := Aside0.mk A200
                                clear A200
                                by_cases c21 : 0 ≤ x6_4
                                · rw [if_pos c21] at H
                                  have c21b0 : decide (0 ≤ x6_4) = true := decide_eq_true c21
                                  clear c21
                                  replace H := Option.bind_eq_some_iff.mp H
                                  obtain ⟨t274, A220, H⟩ := H
                                  replace H : (if t269 < t272 then (if t272 < t271 then (if t271 < t274 then (some 2) else (pomaderef07_Diagram.l2 k4 l0 (wrap64 ((l0.length : Int) / 2)) x5_3 (wrap64 (x6_4 + 1)))) else (pomaderef07_Diagram.l2 k4 l0 (wrap64 ((l0.length : Int) / 2)) x5_3 (wrap64 (x6_4 + 1)))) else (pomaderef07_Diagram.l2 k4 l0 (wrap64 ((l0.length : Int) / 2)) x5_3 (wrap64 (x6_4 + 1)))) = some r := H
                                  have A22 := Aside0.mk A220
                                  clear A220
                                  by_cases c23 : t269 < t272
                                  · rw [if_pos c23] at H
                                    have c23b0 : decide (t269 < t272) = true := decide_eq_true c23
                                    clear c23
                                    by_cases c24 : t272 < t271
                                    · rw [if_pos c24] at H
                                      have c24b0 : decide (t272 < t271) = true := decide_eq_true c24
                                      clear c24
                                      by_cases c25 : t271 < t274
                                      · rw [if_pos c25] at H
                                        have c25b0 : decide (t271 < t274) = true := decide_eq_true c25
                                        clear c25
                                        obtain rfl := Option.some.inj H
                                        go_wp2_with (first | (go_at_call 53; (with_reducible refine (pomaderef07_border.calls (wrap64 ((l0.length : Int) / 2)) x5_3 t269 _ A16.out).mono ?_); rintro e w' ⟨rfl, ⟨nd, rfl⟩⟩; (try first | exact ⟨rfl, _, World.drewN_drewN _ _ _⟩ | exact ⟨rfl, _, Eq.trans (World.drewN_drewN _ _ _) (congrArg (World.drewN _) (Nat.add_assoc _ _ _))⟩); have p270 : 0 ≤ (x5_3 : Int) := of_decide_eq_true (by first | (with_reducible assumption) | assumption); have q270 : x5_3 < (l0.length : Int) := of_decide_eq_true (by first | (with_reducible assumption) | assumption); obtain ⟨ad270, e270, hx270_0⟩ := Kd.at_int HR0.out x5_3 p270 q270; cases e270; replace p270 := eq_true p270; replace q270 := eq_true q270) | (go_at_call 53; (with_reducible refine (pomaderef07_border.calls (wrap64 ((l0.length : Int) / 2)) (rd l0 x5_3) t271 _ A19.out).mono ?_); rintro e w' ⟨rfl, ⟨nd, rfl⟩⟩; (try first | exact ⟨rfl, _, World.drewN_drewN _ _ _⟩ | exact ⟨rfl, _, Eq.trans (World.drewN_drewN _ _ _) (congrArg (World.drewN _) (Nat.add_assoc _ _ _))⟩)) | (go_at_call 53; (with_reducible refine (pomaderef07_border.calls (wrap64 ((l0.length : Int) / 2)) x6_4 t272 _ A20.out).mono ?_); rintro e w' ⟨rfl, ⟨nd, rfl⟩⟩; (try first | exact ⟨rfl, _, World.drewN_drewN _ _ _⟩ | exact ⟨rfl, _, Eq.trans (World.drewN_drewN _ _ _) (congrArg (World.drewN _) (Nat.add_assoc _ _ _))⟩); have p273 : 0 ≤ (x6_4 : Int) := of_decide_eq_true (by first | (with_reducible assumption) | assumption); have q273 : x6_4 < (l0.length : Int) := of_decide_eq_true (by first | (with_reducible assumption) | assumption); obtain ⟨ad273, e273, hx273_0⟩ := Kd.at_int HR0.out x6_4 p273 q273; obtain rfl : ad270 = ad273 := (by injection e273); replace p273 := eq_true p273; replace q273 := eq_true q273) | (go_at_call 53; (with_reducible refine (pomaderef07_border.calls (wrap64 ((l0.length : Int) / 2)) (rd l0 x6_4) t274 _ A22.out).mono ?_); rintro e w' ⟨rfl, ⟨nd, rfl⟩⟩; (try first | exact ⟨rfl, _, World.drewN_drewN _ _ _⟩ | exact ⟨rfl, _, Eq.trans (World.drewN_drewN _ _ _) (congrArg (World.drewN _) (Nat.add_assoc _ _ _))⟩)))
                                        repeat (go_quiet (first | (go_at_call 53; (with_reducible refine (pomaderef07_border.calls (wrap64 ((l0.length : Int) / 2)) x5_3 t269 _ A16.out).mono ?_); rintro e w' ⟨rfl, ⟨nd, rfl⟩⟩; (try first | exact ⟨rfl, _, World.drewN_drewN _ _ _⟩ | exact ⟨rfl, _, Eq.trans (World.drewN_drewN _ _ _) (congrArg (World.drewN _) (Nat.add_assoc _ _ _))⟩); have p270 : 0 ≤ (x5_3 : Int) := of_decide_eq_true (by first | (with_reducible assumption) | assumption); have q270 : x5_3 < (l0.length : Int) := of_decide_eq_true (by first | (with_reducible assumption) | assumption); obtain ⟨ad270, e270, hx270_0⟩ := Kd.at_int HR0.out x5_3 p270 q270; cases e270; replace p270 := eq_true p270; replace q270 := eq_true q270) | (go_at_call 53; (with_reducible refine (pomaderef07_border.calls (wrap64 ((l0.length : Int) / 2)) (rd l0 x5_3) t271 _ A19.out).mono ?_); rintro e w' ⟨rfl, ⟨nd, rfl⟩⟩; (try first | exact ⟨rfl, _, World.drewN_drewN _ _ _⟩ | exact ⟨rfl, _, Eq.trans (World.drewN_drewN _ _ _) (congrArg (World.drewN _) (Nat.add_assoc _ _ _))⟩)) | (go_at_call 53; (with_reducible refine (pomaderef07_border.calls (wrap64 ((l0.length : Int) / 2)) x6_4 t272 _ A20.out).mono ?_); rintro e w' ⟨rfl, ⟨nd, rfl⟩⟩; (try first | exact ⟨rfl, _, World.drewN_drewN _ _ _⟩ | exact ⟨rfl, _, Eq.trans (World.drewN_drewN _ _ _) (congrArg (World.drewN _) (Nat.add_assoc _ _ _))⟩); have p273 : 0 ≤ (x6_4 : Int) := of_decide_eq_true (by first | (with_reducible assumption) | assumption); have q273 : x6_4 < (l0.length : Int) := of_decide_eq_true (by first | (with_reducible assumption) | assumption); obtain ⟨ad273, e273, hx273_0⟩ := Kd.at_int HR0.out x6_4 p273 q273; obtain rfl : ad270 = ad273 := (by injection e273); replace p273 := eq_true p273; replace q273 := eq_true q273) | (go_at_call 53; (with_reducible refine (pomaderef07_border.calls (wrap64 ((l0.length : Int) / 2)) (rd l0 x6_4) t274 _ A22.out).mono ?_); rintro e w' ⟨rfl, ⟨nd, rfl⟩⟩; (try first | exact ⟨rfl, _, World.drewN_drewN _ _ _⟩ | exact ⟨rfl, _, Eq.trans (World.drewN_drewN _ _ _) (congrArg (World.drewN _) (Nat.add_assoc _ _ _))⟩))); try go_wp2_with (first | (go_at_call 53; (with_reducible refine (pomaderef07_border.calls (wrap64 ((l0.length : Int) / 2)) x5_3 t269 _ A16.out).mono ?_); rintro e w' ⟨rfl, ⟨nd, rfl⟩⟩; (try first | exact ⟨rfl, _, World.drewN_drewN _ _ _⟩ | exact ⟨rfl, _, Eq.trans (World.drewN_drewN _ _ _) (congrArg (World.drewN _) (Nat.add_assoc _ _ _))⟩); have p270 : 0 ≤ (x5_3 : Int) := of_decide_eq_true (by first | (with_reducible assumption) | assumption); have q270 : x5_3 < (l0.length : Int) := of_decide_eq_true (by first | (with_reducible assumption) | assumption); obtain ⟨ad270, e270, hx270_0⟩ := Kd.at_int HR0.out x5_3 p270 q270; cases e270; replace p270 := eq_true p270; replace q270 := eq_true q270) | (go_at_call 53; (with_reducible refine (pomaderef07_border.calls (wrap64 ((l0.length : Int) / 2)) (rd l0 x5_3) t271 _ A19.out).mono ?_); rintro e w' ⟨rfl, ⟨nd, rfl⟩⟩; (try first | exact ⟨rfl, _, World.drewN_drewN _ _ _⟩ | exact ⟨rfl, _, Eq.trans (World.drewN_drewN _ _ _) (congrArg (World.drewN _) (Nat.add_assoc _ _ _))⟩)) | (go_at_call 53; (with_reducible refine (pomaderef07_border.calls (wrap64 ((l0.length : Int) / 2)) x6_4 t272 _ A20.out).mono ?_); rintro e w' ⟨rfl, ⟨nd, rfl⟩⟩; (try first | exact ⟨rfl, _, World.drewN_drewN _ _ _⟩ | exact ⟨rfl, _, Eq.trans (World.drewN_drewN _ _ _) (congrArg (World.drewN _) (Nat.add_assoc _ _ _))⟩); have p273 : 0 ≤ (x6_4 : Int) := of_decide_eq_true (by first | (with_reducible assumption) | assumption); have q273 : x6_4 < (l0.length : Int) := of_decide_eq_true (by first | (with_reducible assumption) | assumption); obtain ⟨ad273, e273, hx273_0⟩ := Kd.at_int HR0.out x6_4 p273 q273; obtain rfl : ad270 = ad273 := (by injection e273); replace p273 := eq_true p273; replace q273 := eq_true q273) | (go_at_call 53; (with_reducible refine (pomaderef07_border.calls (wrap64 ((l0.length : Int) / 2)) (rd l0 x6_4) t274 _ A22.out).mono ?_); rintro e w' ⟨rfl, ⟨nd, rfl⟩⟩; (try first | exact ⟨rfl, _, World.drewN_drewN _ _ _⟩ | exact ⟨rfl, _, Eq.trans (World.drewN_drewN _ _ _) (congrArg (World.drewN _) (Nat.add_assoc _ _ _))⟩))))
                                        go_ret
                                        exact ⟨by first | rfl | (simp; done) | (simp [*]; done), by repeat (first | exact Drawn0.refl _ | apply Drawn0.step)⟩
                                      · rw [if_neg c25] at H
                                        have c25b0 : decide (t271 < t274) = false := decide_eq_false c25
                                        clear c25
                                        have H' := Aside0.mk H
                                        clear H
                                        go_wp2_with (first | (go_at_call 53; (with_reducible refine (pomaderef07_border.calls (wrap64 ((l0.length : Int) / 2)) x5_3 t269 _ A16.out).mono ?_); rintro e w' ⟨rfl, ⟨nd, rfl⟩⟩; (try first | exact ⟨rfl, _, World.drewN_drewN _ _ _⟩ | exact ⟨rfl, _, Eq.trans (World.drewN_drewN _ _ _) (congrArg (World.drewN _) (Nat.add_assoc _ _ _))⟩); have p270 : 0 ≤ (x5_3 : Int) := of_decide_eq_true (by first | (with_reducible assumption) | assumption); have q270 : x5_3 < (l0.length : Int) := of_decide_eq_true (by first | (with_reducible assumption) | assumption); obtain ⟨ad270, e270, hx270_0⟩ := Kd.at_int HR0.out x5_3 p270 q270; cases e270; replace p270 := eq_true p270; replace q270 := eq_true q270) | (go_at_call 53; (with_reducible refine (pomaderef07_border.calls (wrap64 ((l0.length : Int) / 2)) (rd l0 x5_3) t271 _ A19.out).mono ?_); rintro e w' ⟨rfl, ⟨nd, rfl⟩⟩; (try first | exact ⟨rfl, _, World.drewN_drewN _ _ _⟩ | exact ⟨rfl, _, Eq.trans (World.drewN_drewN _ _ _) (congrArg (World.drewN _) (Nat.add_assoc _ _ _))⟩)) | (go_at_call 53; (with_reducible refine (pomaderef07_border.calls (wrap64 ((l0.length : Int) / 2)) x6_4 t272 _ A20.out).mono ?_); rintro e w' ⟨rfl, ⟨nd, rfl⟩⟩; (try first | exact ⟨rfl, _, World.drewN_drewN _ _ _⟩ | exact ⟨rfl, _, Eq.trans (World.drewN_drewN _ _ _) (congrArg (World.drewN _) (Nat.add_assoc _ _ _))⟩); have p273 : 0 ≤ (x6_4 : Int) := of_decide_eq_true (by first | (with_reducible assumption) | assumption); have q273 : x6_4 < (l0.length : Int) := of_decide_eq_true (by first | (with_reducible assumption) | assumption); obtain ⟨ad273, e273, hx273_0⟩ := Kd.at_int HR0.out x6_4 p273 q273; obtain rfl : ad270 = ad273 := (by injection e273); replace p273 := eq_true p273; replace q273 := eq_true q273) | (go_at_call 53; (with_reducible refine (pomaderef07_border.calls (wrap64 ((l0.length : Int) / 2)) (rd l0 x6_4) t274 _ A22.out).mono ?_); rintro e w' ⟨rfl, ⟨nd, rfl⟩⟩; (try first | exact ⟨rfl, _, World.drewN_drewN _ _ _⟩ | exact ⟨rfl, _, Eq.trans (World.drewN_drewN _ _ _) (congrArg (World.drewN _) (Nat.add_assoc _ _ _))⟩)))
                                        repeat (go_quiet (first | (go_at_call 53; (with_reducible refine (pomaderef07_border.calls (wrap64 ((l0.length : Int) / 2)) x5_3 t269 _ A16.out).mono ?_); rintro e w' ⟨rfl, ⟨nd, rfl⟩⟩; (try first | exact ⟨rfl, _, World.drewN_drewN _ _ _⟩ | exact ⟨rfl, _, Eq.trans (World.drewN_drewN _ _ _) (congrArg (World.drewN _) (Nat.add_assoc _ _ _))⟩); have p270 : 0 ≤ (x5_3 : Int) := of_decide_eq_true (by first | (with_reducible assumption) | assumption); have q270 : x5_3 < (l0.length : Int) := of_decide_eq_true (by first | (with_reducible assumption) | assumption); obtain ⟨ad270, e270, hx270_0⟩ := Kd.at_int HR0.out x5_3 p270 q270; cases e270; replace p270 := eq_true p270; replace q270 := eq_true q270) | (go_at_call 53; (with_reducible refine (pomaderef07_border.calls (wrap64 ((l0.length : Int) / 2)) (rd l0 x5_3) t271 _ A19.out).mono ?_); rintro e w' ⟨rfl, ⟨nd, rfl⟩⟩; (try first | exact ⟨rfl, _, World.drewN_drewN _ _ _⟩ | exact ⟨rfl, _, Eq.trans (World.drewN_drewN _ _ _) (congrArg (World.drewN _) (Nat.add_assoc _ _ _))⟩)) | (go_at_call 53; (with_reducible refine (pomaderef07_border.calls (wrap64 ((l0.length : Int) / 2)) x6_4 t272 _ A20.out).mono ?_); rintro e w' ⟨rfl, ⟨nd, rfl⟩⟩; (try first | exact ⟨rfl, _, World.drewN_drewN _ _ _⟩ | exact ⟨rfl, _, Eq.trans (World.drewN_drewN _ _ _) (congrArg (World.drewN _) (Nat.add_assoc _ _ _))⟩); have p273 : 0 ≤ (x6_4 : Int) := of_decide_eq_true (by first | (with_reducible assumption) | assumption); have q273 : x6_4 < (l0.length : Int) := of_decide_eq_true (by first | (with_reducible assumption) | assumption); obtain ⟨ad273, e273, hx273_0⟩ := Kd.at_int HR0.out x6_4 p273 q273; obtain rfl : ad270 = ad273 := (by injection e273); replace p273 := eq_true p273; replace q273 := eq_true q273) | (go_at_call 53; (with_reducible refine (pomaderef07_border.calls (wrap64 ((l0.length : Int) / 2)) (rd l0 x6_4) t274 _ A22.out).mono ?_); rintro e w' ⟨rfl, ⟨nd, rfl⟩⟩; (try first | exact ⟨rfl, _, World.drewN_drewN _ _ _⟩ | exact ⟨rfl, _, Eq.trans (World.drewN_drewN _ _ _) (congrArg (World.drewN _) (Nat.add_assoc _ _ _))⟩))); try go_wp2_with (first | (go_at_call 53; (with_reducible refine (pomaderef07_border.calls (wrap64 ((l0.length : Int) / 2)) x5_3 t269 _ A16.out).mono ?_); rintro e w' ⟨rfl, ⟨nd, rfl⟩⟩; (try first | exact ⟨rfl, _, World.drewN_drewN _ _ _⟩ | exact ⟨rfl, _, Eq.trans (World.drewN_drewN _ _ _) (congrArg (World.drewN _) (Nat.add_assoc _ _ _))⟩); have p270 : 0 ≤ (x5_3 : Int) := of_decide_eq_true (by first | (with_reducible assumption) | assumption); have q270 : x5_3 < (l0.length : Int) := of_decide_eq_true (by first | (with_reducible assumption) | assumption); obtain ⟨ad270, e270, hx270_0⟩ := Kd.at_int HR0.out x5_3 p270 q270; cases e270; replace p270 := eq_true p270; replace q270 := eq_true q270) | (go_at_call 53; (with_reducible refine (pomaderef07_border.calls (wrap64 ((l0.length : Int) / 2)) (rd l0 x5_3) t271 _ A19.out).mono ?_); rintro e w' ⟨rfl, ⟨nd, rfl⟩⟩; (try first | exact ⟨rfl, _, World.drewN_drewN _ _ _⟩ | exact ⟨rfl, _, Eq.trans (World.drewN_drewN _ _ _) (congrArg (World.drewN _) (Nat.add_assoc _ _ _))⟩)) | (go_at_call 53; (with_reducible refine (pomaderef07_border.calls (wrap64 ((l0.length : Int) / 2)) x6_4 t272 _ A20.out).mono ?_); rintro e w' ⟨rfl, ⟨nd, rfl⟩⟩; (try first | exact ⟨rfl, _, World.drewN_drewN _ _ _⟩ | exact ⟨rfl, _, Eq.trans (World.drewN_drewN _ _ _) (congrArg (World.drewN _) (Nat.add_assoc _ _ _))⟩); have p273 : 0 ≤ (x6_4 : Int) := of_decide_eq_true (by first | (with_reducible assumption) | assumption); have q273 : x6_4 < (l0.length : Int) := of_decide_eq_true (by first | (with_reducible assumption) | assumption); obtain ⟨ad273, e273, hx273_0⟩ := Kd.at_int HR0.out x6_4 p273 q273; obtain rfl : ad270 = ad273 := (by injection e273); replace p273 := eq_true p273; replace q273 := eq_true q273) | (go_at_call 53; (with_reducible refine (pomaderef07_border.calls (wrap64 ((l0.length : Int) / 2)) (rd l0 x6_4) t274 _ A22.out).mono ?_); rintro e w' ⟨rfl, ⟨nd, rfl⟩⟩; (try first | exact ⟨rfl, _, World.drewN_drewN _ _ _⟩ | exact ⟨rfl, _, Eq.trans (World.drewN_drewN _ _ _) (congrArg (World.drewN _) (Nat.add_assoc _ _ _))⟩))))
                                        go_roundg k4
                                        case measure => have := HJ2.out; have := HK2.out; have := HK3.out; have := HK4.out; omega
                                        case rel => exact ⟨(wrap64 (x6_4 + 1)), (by first | rfl | (simp; done) | (simp [*]; done)), H', ⟨by have := HJ2.out; have := HK2.out; have := HK3.out; have := HK4.out; omega⟩, by repeat (first | exact Drawn0.refl _ | apply Drawn0.step)⟩
                                    · rw [if_neg c24] at H
                                      have c24b0 : decide (t272 < t271) = false := decide_eq_false c24
                                      clear c24
                                      have H' := Aside0.mk H
                                      clear H
                                      go_wp2_with (first | (go_at_call 53; (with_reducible refine (pomaderef07_border.calls (wrap64 ((l0.length : Int) / 2)) x5_3 t269 _ A16.out).mono ?_); rintro e w' ⟨rfl, ⟨nd, rfl⟩⟩; (try first | exact ⟨rfl, _, World.drewN_drewN _ _ _⟩ | exact ⟨rfl, _, Eq.trans (World.drewN_drewN _ _ _) (congrArg (World.drewN _) (Nat.add_assoc _ _ _))⟩); have p270 : 0 ≤ (x5_3 : Int) := of_decide_eq_true (by first | (with_reducible assumption) | assumption); have q270 : x5_3 < (l0.length : Int) := of_decide_eq_true (by first | (with_reducible assumption) | assumption); obtain ⟨ad270, e270, hx270_0⟩ := Kd.at_int HR0.out x5_3 p270 q270; cases e270; replace p270 := eq_true p270; replace q270 := eq_true q270) | (go_at_call 53; (with_reducible refine (pomaderef07_border.calls (wrap64 ((l0.length : Int) / 2)) (rd l0 x5_3) t271 _ A19.out).mono ?_); rintro e w' ⟨rfl, ⟨nd, rfl⟩⟩; (try first | exact ⟨rfl, _, World.drewN_drewN _ _ _⟩ | exact ⟨rfl, _, Eq.trans (World.drewN_drewN _ _ _) (congrArg (World.drewN _) (Nat.add_assoc _ _ _))⟩)) | (go_at_call 53; (with_reducible refine (pomaderef07_border.calls (wrap64 ((l0.length : Int) / 2)) x6_4 t272 _ A20.out).mono ?_); rintro e w' ⟨rfl, ⟨nd, rfl⟩⟩; (try first | exact ⟨rfl, _, World.drewN_drewN _ _ _⟩ | exact ⟨rfl, _, Eq.trans (World.drewN_drewN _ _ _) (congrArg (World.drewN _) (Nat.add_assoc _ _ _))⟩); have p273 : 0 ≤ (x6_4 : Int) := of_decide_eq_true (by first | (with_reducible assumption) | assumption); have q273 : x6_4 < (l0.length : Int) := of_decide_eq_true (by first | (with_reducible assumption) | assumption); obtain ⟨ad273, e273, hx273_0⟩ := Kd.at_int HR0.out x6_4 p273 q273; obtain rfl : ad270 = ad273 := (by injection e273); replace p273 := eq_true p273; replace q273 := eq_true q273) | (go_at_call 53; (with_reducible refine (pomaderef07_border.calls (wrap64 ((l0.length : Int) / 2)) (rd l0 x6_4) t274 _ A22.out).mono ?_); rintro e w' ⟨rfl, ⟨nd, rfl⟩⟩; (try first | exact ⟨rfl, _, World.drewN_drewN _ _ _⟩ | exact ⟨rfl, _, Eq.trans (World.drewN_drewN _ _ _) (congrArg (World.drewN _) (Nat.add_assoc _ _ _))⟩)))
                                      repeat (go_quiet (first | (go_at_call 53; (with_reducible refine (pomaderef07_border.calls (wrap64 ((l0.length : Int) / 2)) x5_3 t269 _ A16.out).mono ?_); rintro e w' ⟨rfl, ⟨nd, rfl⟩⟩; (try first | exact ⟨rfl, _, World.drewN_drewN _ _ _⟩ | exact ⟨rfl, _, Eq.trans (World.drewN_drewN _ _ _) (congrArg (World.drewN _) (Nat.add_assoc _ _ _))⟩); have p270 : 0 ≤ (x5_3 : Int) := of_decide_eq_true (by first | (with_reducible assumption) | assumption); have q270 : x5_3 < (l0.length : Int) := of_decide_eq_true (by first | (with_reducible assumption) | assumption); obtain ⟨ad270, e270, hx270_0⟩ := Kd.at_int HR0.out x5_3 p270 q270; cases e270; replace p270 := eq_true p270; replace q270 := eq_true q270) | (go_at_call 53; (with_reducible refine (pomaderef07_border.calls (wrap64 ((l0.length : Int) / 2)) (rd l0 x5_3) t271 _ A19.out).mono ?_); rintro e w' ⟨rfl, ⟨nd, rfl⟩⟩; (try first | exact ⟨rfl, _, World.drewN_drewN _ _ _⟩ | exact ⟨rfl, _, Eq.trans (World.drewN_drewN _ _ _) (congrArg (World.drewN _) (Nat.add_assoc _ _ _))⟩)) | (go_at_call 53; (with_reducible refine (pomaderef07_border.calls (wrap64 ((l0.length : Int) / 2)) x6_4 t272 _ A20.out).mono ?_); rintro e w' ⟨rfl, ⟨nd, rfl⟩⟩; (try first | exact ⟨rfl, _, World.drewN_drewN _ _ _⟩ | exact ⟨rfl, _, Eq.trans (World.drewN_drewN _ _ _) (congrArg (World.drewN _) (Nat.add_assoc _ _ _))⟩); have p273 : 0 ≤ (x6_4 : Int) := of_decide_eq_true (by first | (with_reducible assumption) | assumption); have q273 : x6_4 < (l0.length : Int) := of_decide_eq_true (by first | (with_reducible assumption) | assumption); obtain ⟨ad273, e273, hx273_0⟩ := Kd.at_int HR0.out x6_4 p273 q273; obtain rfl : ad270 = ad273 := (by injection e273); replace p273 := eq_true p273; replace q273 := eq_true q273) | (go_at_call 53; (with_reducible refine (pomaderef07_border.calls (wrap64 ((l0.length : Int) / 2)) (rd l0 x6_4) t274 _ A22.out).mono ?_); rintro e w' ⟨rfl, ⟨nd, rfl⟩⟩; (try first | exact ⟨rfl, _, World.drewN_drewN _ _ _⟩ | exact ⟨rfl, _, Eq.trans (World.drewN_drewN _ _ _) (congrArg (World.drewN _) (Nat.add_assoc _ _ _))⟩))); try go_wp2_with (first | (go_at_call 53; (with_reducible refine (pomaderef07_border.calls (wrap64 ((l0.length : Int) / 2)) x5_3 t269 _ A16.out).mono ?_); rintro e w' ⟨rfl, ⟨nd, rfl⟩⟩; (try first | exact ⟨rfl, _, World.drewN_drewN _ _ _⟩ | exact ⟨rfl, _, Eq.trans (World.drewN_drewN _ _ _) (congrArg (World.drewN _) (Nat.add_assoc _ _ _))⟩); have p270 : 0 ≤ (x5_3 : Int) := of_decide_eq_true (by first | (with_reducible assumption) | assumption); have q270 : x5_3 < (l0.length : Int) := of_decide_eq_true (by first | (with_reducible assumption) | assumption); obtain ⟨ad270, e270, hx270_0⟩ := Kd.at_int HR0.out x5_3 p270 q270; cases e270; replace p270 := eq_true p270; replace q270 := eq_true q270) | (go_at_call 53; (with_reducible refine (pomaderef07_border.calls (wrap64 ((l0.length : Int) / 2)) (rd l0 x5_3) t271 _ A19.out).mono ?_); rintro e w' ⟨rfl, ⟨nd, rfl⟩⟩; (try first | exact ⟨rfl, _, World.drewN_drewN _ _ _⟩ | exact ⟨rfl, _, Eq.trans (World.drewN_drewN _ _ _) (congrArg (World.drewN _) (Nat.add_assoc _ _ _))⟩)) | (go_at_call 53; (with_reducible refine (pomaderef07_border.calls (wrap64 ((l0.length : Int) / 2)) x6_4 t272 _ A20.out).mono ?_); rintro e w' ⟨rfl, ⟨nd, rfl⟩⟩; (try first | exact ⟨rfl, _, World.drewN_drewN _ _ _⟩ | exact ⟨rfl, _, Eq.trans (World.drewN_drewN _ _ _) (congrArg (World.drewN _) (Nat.add_assoc _ _ _))⟩); have p273 : 0 ≤ (x6_4 : Int) := of_decide_eq_true (by first | (with_reducible assumption) | assumption); have q273 : x6_4 < (l0.length : Int) := of_decide_eq_true (by first | (with_reducible assumption) | assumption); obtain ⟨ad273, e273, hx273_0⟩ := Kd.at_int HR0.out x6_4 p273 q273; obtain rfl : ad270 = ad273 := (by injection e273); replace p273 := eq_true p273; replace q273 := eq_true q273) | (go_at_call 53; (with_reducible refine (pomaderef07_border.calls (wrap64 ((l0.length : Int) / 2)) (rd l0 x6_4) t274 _ A22.out).mono ?_); rintro e w' ⟨rfl, ⟨nd, rfl⟩⟩; (try first | exact ⟨rfl, _, World.drewN_drewN _ _ _⟩ | exact ⟨rfl, _, Eq.trans (World.drewN_drewN _ _ _) (congrArg (World.drewN _) (Nat.add_assoc _ _ _))⟩))))
                                      go_roundg k4
                                      case measure => have := HJ2.out; have := HK2.out; have := HK3.out; have := HK4.out; omega
                                      case rel => exact ⟨(wrap64 (x6_4 + 1)), (by first | rfl | (simp; done) | (simp [*]; done)), H', ⟨by have := HJ2.out; have := HK2.out; have := HK3.out; have := HK4.out; omega⟩, by repeat (first | exact Drawn0.refl _ | apply Drawn0.step)⟩
                                  · rw [if_neg c23] at H
                                    have c23b0 : decide (t269 < t272) = false := decide_eq_false c23
                                    clear c23
                                    have H' := Aside0.mk H
                                    clear H
                                    go_wp2_with (first | (go_at_call 53; (with_reducible refine (pomaderef07_border.calls (wrap64 ((l0.length : Int) / 2)) x5_3 t269 _ A16.out).mono ?_); rintro e w' ⟨rfl, ⟨nd, rfl⟩⟩; (try first | exact ⟨rfl, _, World.drewN_drewN _ _ _⟩ | exact ⟨rfl, _, Eq.trans (World.drewN_drewN _ _ _) (congrArg (World.drewN _) (Nat.add_assoc _ _ _))⟩); have p270 : 0 ≤ (x5_3 : Int) := of_decide_eq_true (by first | (with_reducible assumption) | assumption); have q270 : x5_3 < (l0.length : Int) := of_decide_eq_true (by first | (with_reducible assumption) | assumption); obtain ⟨ad270, e270, hx270_0⟩ := Kd.at_int HR0.out x5_3 p270 q270; cases e270; replace p270 := eq_true p270; replace q270 := eq_true q270) | (go_at_call 53; (with_reducible refine (pomaderef07_border.calls (wrap64 ((l0.length : Int) / 2)) (rd l0 x5_3) t271 _ A19.out).mono ?_); rintro e w' ⟨rfl, ⟨nd, rfl⟩⟩; (try first | exact ⟨rfl, _, World.drewN_drewN _ _ _⟩ | exact ⟨rfl, _, Eq.trans (World.drewN_drewN _ _ _) (congrArg (World.drewN _) (Nat.add_assoc _ _ _))⟩)) | (go_at_call 53; (with_reducible refine (pomaderef07_border.calls (wrap64 ((l0.length : Int) / 2)) x6_4 t272 _ A20.out).mono ?_); rintro e w' ⟨rfl, ⟨nd, rfl⟩⟩; (try first | exact ⟨rfl, _, World.drewN_drewN _ _ _⟩ | exact ⟨rfl, _, Eq.trans (World.drewN_drewN _ _ _) (congrArg (World.drewN _) (Nat.add_assoc _ _ _))⟩); have p273 : 0 ≤ (x6_4 : Int) := of_decide_eq_true (by first | (with_reducible assumption) | assumption); have q273 : x6_4 < (l0.length : Int) := of_decide_eq_true (by first | (with_reducible assumption) | assumption); obtain ⟨ad273, e273, hx273_0⟩ := Kd.at_int HR0.out x6_4 p273 q273; obtain rfl : ad270 = ad273 := (by injection e273); replace p273 := eq_true p273; replace q273 := eq_true q273) | (go_at_call 53; (with_reducible refine (pomaderef07_border.calls (wrap64 ((l0.length : Int) / 2)) (rd l0 x6_4) t274 _ A22.out).mono ?_); rintro e w' ⟨rfl, ⟨nd, rfl⟩⟩; (try first | exact ⟨rfl, _, World.drewN_drewN _ _ _⟩ | exact ⟨rfl, _, Eq.trans (World.drewN_drewN _ _ _) (congrArg (World.drewN _) (Nat.add_assoc _ _ _))⟩)))
                                    repeat (go_quiet (first | (go_at_call 53; (with_reducible refine (pomaderef07_border.calls (wrap64 ((l0.length : Int) / 2)) x5_3 t269 _ A16.out).mono ?_); rintro e w' ⟨rfl, ⟨nd, rfl⟩⟩; (try first | exact ⟨rfl, _, World.drewN_drewN _ _ _⟩ | exact ⟨rfl, _, Eq.trans (World.drewN_drewN _ _ _) (congrArg (World.drewN _) (Nat.add_assoc _ _ _))⟩); have p270 : 0 ≤ (x5_3 : Int) := of_decide_eq_true (by first | (with_reducible assumption) | assumption); have q270 : x5_3 < (l0.length : Int) := of_decide_eq_true (by first | (with_reducible assumption) | assumption); obtain ⟨ad270, e270, hx270_0⟩ := Kd.at_int HR0.out x5_3 p270 q270; cases e270; replace p270 := eq_true p270; replace q270 := eq_true q270) | (go_at_call 53; (with_reducible refine (pomaderef07_border.calls (wrap64 ((l0.length : Int) / 2)) (rd l0 x5_3) t271 _ A19.out).mono ?_); rintro e w' ⟨rfl, ⟨nd, rfl⟩⟩; (try first | exact ⟨rfl, _, World.drewN_drewN _ _ _⟩ | exact ⟨rfl, _, Eq.trans (World.drewN_drewN _ _ _) (congrArg (World.drewN _) (Nat.add_assoc _ _ _))⟩)) | (go_at_call 53; (with_reducible refine (pomaderef07_border.calls (wrap64 ((l0.length : Int) / 2)) x6_4 t272 _ A20.out).mono ?_); rintro e w' ⟨rfl, ⟨nd, rfl⟩⟩; (try first | exact ⟨rfl, _, World.drewN_drewN _ _ _⟩ | exact ⟨rfl, _, Eq.trans (World.drewN_drewN _ _ _) (congrArg (World.drewN _) (Nat.add_assoc _ _ _))⟩); have p273 : 0 ≤ (x6_4 : Int) := of_decide_eq_true (by first | (with_reducible assumption) | assumption); have q273 : x6_4 < (l0.length : Int) := of_decide_eq_true (by first | (with_reducible assumption) | assumption); obtain ⟨ad273, e273, hx273_0⟩ := Kd.at_int HR0.out x6_4 p273 q273; obtain rfl : ad270 = ad273 := (by injection e273); replace p273 := eq_true p273; replace q273 := eq_true q273) | (go_at_call 53; (with_reducible refine (pomaderef07_border.calls (wrap64 ((l0.length : Int) / 2)) (rd l0 x6_4) t274 _ A22.out).mono ?_); rintro e w' ⟨rfl, ⟨nd, rfl⟩⟩; (try first | exact ⟨rfl, _, World.drewN_drewN _ _ _⟩ | exact ⟨rfl, _, Eq.trans (World.drewN_drewN _ _ _) (congrArg (World.drewN _) (Nat.add_assoc _ _ _))⟩))); try go_wp2_with (first | (go_at_call 53; (with_reducible refine (pomaderef07_border.calls (wrap64 ((l0.length : Int) / 2)) x5_3 t269 _ A16.out).mono ?_); rintro e w' ⟨rfl, ⟨nd, rfl⟩⟩; (try first | exact ⟨rfl, _, World.drewN_drewN _ _ _⟩ | exact ⟨rfl, _, Eq.trans (World.drewN_drewN _ _ _) (congrArg (World.drewN _) (Nat.add_assoc _ _ _))⟩); have p270 : 0 ≤ (x5_3 : Int) := of_decide_eq_true (by first | (with_reducible assumption) | assumption); have q270 : x5_3 < (l0.length : Int) := of_decide_eq_true (by first | (with_reducible assumption) | assumption); obtain ⟨ad270, e270, hx270_0⟩ := Kd.at_int HR0.out x5_3 p270 q270; cases e270; replace p270 := eq_true p270; replace q270 := eq_true q270) | (go_at_call 53; (with_reducible refine (pomaderef07_border.calls (wrap64 ((l0.length : Int) / 2)) (rd l0 x5_3) t271 _ A19.out).mono ?_); rintro e w' ⟨rfl, ⟨nd, rfl⟩⟩; (try first | exact ⟨rfl, _, World.drewN_drewN _ _ _⟩ | exact ⟨rfl, _, Eq.trans (World.drewN_drewN _ _ _) (congrArg (World.drewN _) (Nat.add_assoc _ _ _))⟩)) | (go_at_call 53; (with_reducible refine (pomaderef07_border.calls (wrap64 ((l0.length : Int) / 2)) x6_4 t272 _ A20.out).mono ?_); rintro e w' ⟨rfl, ⟨nd, rfl⟩⟩; (try first | exact ⟨rfl, _, World.drewN_drewN _ _ _⟩ | exact ⟨rfl, _, Eq.trans (World.drewN_drewN _ _ _) (congrArg (World.drewN _) (Nat.add_assoc _ _ _))⟩); have p273 : 0 ≤ (x6_4 : Int) := of_decide_eq_true (by first | (with_reducible assumption) | assumption); have q273 : x6_4 < (l0.length : Int) := of_decide_eq_true (by first | (with_reducible assumption) | assumption); obtain ⟨ad273, e273, hx273_0⟩ := Kd.at_int HR0.out x6_4 p273 q273; obtain rfl : ad270 = ad273 := (by injection e273); replace p273 := eq_true p273; replace q273 := eq_true q273) | (go_at_call 53; (with_reducible refine (pomaderef07_border.calls (wrap64 ((l0.length : Int) / 2)) (rd l0 x6_4) t274 _ A22.out).mono ?_); rintro e w' ⟨rfl, ⟨nd, rfl⟩⟩; (try first | exact ⟨rfl, _, World.drewN_drewN _ _ _⟩ | exact ⟨rfl, _, Eq.trans (World.drewN_drewN _ _ _) (congrArg (World.drewN _) (Nat.add_assoc _ _ _))⟩))))
                                    go_roundg k4
                                    case measure => have := HJ2.out; have := HK2.out; have := HK3.out; have := HK4.out; omega
                                    case rel => exact ⟨(wrap64 (x6_4 + 1)), (by first | rfl | (simp; done) | (simp [*]; done)), H', ⟨by have := HJ2.out; have := HK2.out; have := HK3.out; have := HK4.out; omega⟩, by repeat (first | exact Drawn0.refl _ | apply Drawn0.step)⟩
                                · rw [if_neg c21] at H
                                  exact absurd H (by simp)
                              · rw [if_neg c18] at H
                                exact absurd H (by simp)
                            · rw [if_neg c17] at H
                              exact absurd H (by simp)
                          · rw [if_neg c15] at H
                            have c15b0 : decide (x6_4 < (l0.length : Int)) = false := decide_eq_false c15
                            clear c15
                            have H' := Aside0.mk H
                            clear H
                            go_wp2
                            repeat (go_quiet (fail); try go_wp2)
                            go_roundg k4
                            case measure => have := HJ2.out; have := HK2.out; have := HK3.out; have := HK4.out; omega
                            case rel => exact ⟨(wrap64 (x5_3 + 1)), (by first | rfl | (simp; done) | (simp [*]; done)), H', ⟨by have := HJ2.out; have := HK2.out; have := HK3.out; have := HK4.out; omega⟩, by repeat (first | exact Drawn0.refl _ | apply Drawn0.step)⟩
                    · rw [if_neg c14] at H
                      have c14b0 : decide (x5_3 < (l0.length : Int)) = false := decide_eq_false c14
                      clear c14
                      obtain rfl := Option.some.inj H
                      go_wp2
                      repeat (go_quiet (fail); try go_wp2)
                      go_ret
                      exact ⟨by first | rfl | (simp; done) | (simp [*]; done), by repeat (first | exact Drawn0.refl _ | apply Drawn0.step)⟩
/-! ### pomaderef07_Is: function 32 -/
def pomaderef07_Is.f (k : Nat) (l0 : List Int) : Option (Bool × Int) := if (l0.length : Int) > 20 then (some (false, 3)) else ((pomaderef07_Diagram.f k l0).bind fun t275 => (some ((t275 == 0), 0)))
theorem pomaderef07_Is.mono : ∀ a0 k, LeO (pomaderef07_Is.f k a0) (pomaderef07_Is.f (k + 1) a0) := by
  intro a0 k
  unfold pomaderef07_Is.f
  repeat' first
      | (with_reducible exact pomaderef07_Diagram.mono _ _)
      | (with_reducible exact LeO.refl _)
      | (with_reducible exact LeO.none _)
      | (with_reducible refine LeO.ite ?_ ?_)
      | (with_reducible refine LeO.bind ?_ (fun _ => ?_))
      | exact pomaderef07_Diagram.mono _ _
      | exact LeO.none _
      | refine LeO.ite ?_ ?_
      | refine LeO.bind ?_ (fun _ => ?_)
set_option maxHeartbeats 8000000 in
set_option maxRecDepth 100000 in
theorem pomaderef07_Is.calls (k : Nat) (A0 : Option Addr) (c0 : Nat) (l0 : List Int) (r1 : Bool) (r2 : Int) (w : World) (hr0 : Kd.C (Kd.int .i64) w A0 l0.length l0) (hc0 : l0.length ≤ c0) (h : pomaderef07_Is.f k l0 = some (r1, r2)) :
    Calls Try.prog 32 #[.slice A0 l0.length c0] w fun e w' => e = .returned (.tuple #[.bool r1, .int .i64 r2]) ∧ Drawn0 w w' := by
  have HR0 := Aside0.mk hr0
  have HC0 := Aside0.mk hc0
  clear hr0 hc0
  have H : (if (l0.length : Int) > 20 then (some (false, 3)) else ((pomaderef07_Diagram.f k l0).bind fun t275 => (some ((t275 == 0), 0)))) = some (r1, r2) := h
  clear h
  by_cases c2 : (l0.length : Int) > 20
  · rw [if_pos c2] at H
    have c2b0 : decide (20 < (l0.length : Int)) = true := decide_eq_true c2
    have c2b1 : decide (20 < l0.length) = true := decide_eq_true (by omega)
    clear c2
    simp only [Option.some.injEq, Prod.mk.injEq] at H
    obtain ⟨rfl, rfl⟩ := H
    go_enter Try.func32, Try.ntmps32
    go_wp2
    go_ret2
    exact ⟨by first | rfl | (simp; done) | (simp [*]; done), by repeat (first | exact Drawn0.refl _ | apply Drawn0.step)⟩
  · rw [if_neg c2] at H
    have c2b0 : decide (20 < (l0.length : Int)) = false := decide_eq_false c2
    have c2b1 : decide (20 < l0.length) = false := decide_eq_false (by omega)
    clear c2
    replace H := Option.bind_eq_some_iff.mp H
    obtain ⟨t275, A30, H⟩ := H
    replace H : (some ((t275 == 0), 0)) = some (r1, r2) := H
    have A3 := Aside0.mk A30
    clear A30
    simp only [Option.some.injEq, Prod.mk.injEq] at H
    obtain ⟨rfl, rfl⟩ := H
    go_enter Try.func32, Try.ntmps32
    go_wp2_with (first | ((with_reducible refine gate_callee (f := 19) rfl ?_); refine goesL_ (some 8) rfl rfl Try.func19 (by kernel_rfl) rfl #[.slice A0 l0.length c0] rfl (by (try simp only [List.map_toArray, List.map_cons, List.map_nil]); first | done | rfl | (simp only [List.length_drop, List.length_take]; rfl)) ?_; (with_reducible refine (pomaderef07_Diagram.calls k _ _ l0 t275 _ ?side1 ?side2 A3.out).mono ?_); (case side1 => repeat (first | exact HR0.out | (with_reducible refine Kd.C_alloc ?_ _) | (with_reducible refine Kd.C_drewN ?_ _) | (with_reducible refine Kd.C_drew ?_))); (case side2 => exact HC0.out); rintro e w' ⟨rfl, ⟨nd, rfl⟩⟩; refine ⟨_, rfl, ?_⟩))
    go_ret2
    exact ⟨by first | rfl | (simp; done) | (simp [*]; done), by repeat (first | exact Drawn0.refl _ | apply Drawn0.step)⟩
end Go.Proofs.Ytjfkompfkgjdaaa.PC
end
section
namespace Go.Proofs.Ytjfkompfkgjdaaa.PC
open Go.RowKit Go.Proofs.YtjfkompfkgjdaaaW.PrintWords Go.Proofs.YtjfkompfkgjdaaaW.PrintLast Go.Proofs.YtjfkompfkgjdaaaW.PrintMore
attribute [local go_sem] max2_int min2_int max_two min_two max_three min_three max_four min_four   -- for this text's walks alone
set_option linter.unusedVariables false
set_option linter.unusedSimpArgs false
/-! ### pomaderef07_product: function 58 -/
mutual
def pomaderef07_product.l0 : Nat → List Int → List Int → Int → List Bool → List Int → Int → Option (List Int × Int)
  | 0, _, _, _, _, _, _ => none
  | k + 1, x0, x1, x6, x7, x8, x9 => if x9 < (wrap64 (2 * x6)) then (if x9 ≥ x6 then (pomaderef07_product.j1 k x0 x1 x6 x7 x8 x9 (wrap64 (x9 + (wrap64 (2 * x6))))) else (pomaderef07_product.j1 k x0 x1 x6 x7 x8 x9 x9)) else (pomaderef07_product.l2 k x0 x1 x6 x7 x8 0 x6)
def pomaderef07_product.j1 : Nat → List Int → List Int → Int → List Bool → List Int → Int → Int → Option (List Int × Int)
  | 0, _, _, _, _, _, _, _ => none
  | k + 1, x0, x1, x6, x7, x8, x9, x10 => if 0 ≤ x10 then (if x10 < (x7.length : Int) then (pomaderef07_product.l1 k x0 x1 x6 (x7.set (x10 : Int).toNat true) x8 x9 x10) else (none)) else (none)
def pomaderef07_product.l1 : Nat → List Int → List Int → Int → List Bool → List Int → Int → Int → Option (List Int × Int)
  | 0, _, _, _, _, _, _, _ => none
  | k + 1, x0, x1, x6, x7, x8, x9, x10 => if x10 < (wrap64 (2 * x6)) then (if 0 ≤ x10 then (if x10 < (x0.length : Int) then (pomaderef07_product.j3 k x0 x1 x6 x7 x8 x9 (rd x0 x10)) else (none)) else (none)) else (if 0 ≤ (wrap64 (x10 - (wrap64 (2 * x6)))) then (if (wrap64 (x10 - (wrap64 (2 * x6)))) < (x1.length : Int) then (pomaderef07_product.j3 k x0 x1 x6 x7 x8 x9 (wrap64 ((wrap64 (2 * x6)) + (rd x1 (wrap64 (x10 - (wrap64 (2 * x6)))))))) else (none)) else (none))
def pomaderef07_product.j3 : Nat → List Int → List Int → Int → List Bool → List Int → Int → Int → Option (List Int × Int)
  | 0, _, _, _, _, _, _, _ => none
  | k + 1, x0, x1, x6, x7, x8, x9, x10 => if 0 ≤ x10 then (if x10 < (x7.length : Int) then ((some (x7.set (x10 : Int).toNat true : List Bool)).bind fun y285 => (if x10 < x6 then (pomaderef07_product.j4 k x0 x1 x6 y285 x8 x9 x10 true) else (pomaderef07_product.j4 k x0 x1 x6 y285 x8 x9 x10 (decide (x10 ≥ (wrap64 (3 * x6))))))) else (none)) else (none)
def pomaderef07_product.j4 : Nat → List Int → List Int → Int → List Bool → List Int → Int → Int → Bool → Option (List Int × Int)
  | 0, _, _, _, _, _, _, _, _ => none
  | k + 1, x0, x1, x6, x7, x8, x9, x10, x69 => if x69 = true then (if x10 ≥ (wrap64 (3 * x6)) then (if 0 ≤ x9 then (if x9 < (x8.length : Int) then (pomaderef07_product.l0 k x0 x1 x6 x7 (x8.set (x9 : Int).toNat (wrap64 (x10 - (wrap64 (2 * x6))))) (wrap64 (x9 + 1))) else (none)) else (none)) else (if 0 ≤ x9 then (if x9 < (x8.length : Int) then (pomaderef07_product.l0 k x0 x1 x6 x7 (x8.set (x9 : Int).toNat x10) (wrap64 (x9 + 1))) else (none)) else (none))) else (if x10 < (wrap64 (2 * x6)) then (if 0 ≤ (wrap64 (x10 + x6)) then (if (wrap64 (x10 + x6)) < (x7.length : Int) then (pomaderef07_product.l1 k x0 x1 x6 (x7.set ((wrap64 (x10 + x6)) : Int).toNat true) x8 x9 (wrap64 (x10 + x6))) else (none)) else (none)) else (if 0 ≤ (wrap64 (x10 - x6)) then (if (wrap64 (x10 - x6)) < (x7.length : Int) then (pomaderef07_product.l1 k x0 x1 x6 (x7.set ((wrap64 (x10 - x6)) : Int).toNat true) x8 x9 (wrap64 (x10 - x6))) else (none)) else (none)))
def pomaderef07_product.l2 : Nat → List Int → List Int → Int → List Bool → List Int → Int → Int → Option (List Int × Int)
  | 0, _, _, _, _, _, _, _ => none
  | k + 1, x0, x1, x6, x7, x8, x11, x12 => if x12 < (wrap64 (2 * x6)) then (if 0 ≤ x12 then (if x12 < (x7.length : Int) then (if rdOf false x7 x12 = true then (pomaderef07_product.l2 k x0 x1 x6 x7 x8 x11 (wrap64 (x12 + 1))) else (pomaderef07_product.l3 k x0 x1 x6 x7 x8 (wrap64 (x11 + 1)) x12 x12)) else (none)) else (none)) else (some (x8, x11))
def pomaderef07_product.l3 : Nat → List Int → List Int → Int → List Bool → List Int → Int → Int → Int → Option (List Int × Int)
  | 0, _, _, _, _, _, _, _, _ => none
  | k + 1, x0, x1, x6, x7, x8, x11, x12, x13 => if 0 ≤ x13 then (if x13 < (x7.length : Int) then (if rdOf false x7 x13 = true then (pomaderef07_product.l2 k x0 x1 x6 x7 x8 x11 (wrap64 (x12 + 1))) else (if x13 < (x0.length : Int) then (if 0 ≤ (rd x0 x13) then (if (rd x0 x13) < (x7.length : Int) then (if 0 ≤ (wrap64 ((rd x0 x13) - x6)) then (if (wrap64 ((rd x0 x13) - x6)) < (x1.length : Int) then (if 0 ≤ (wrap64 ((wrap64 (2 * x6)) + (rd x1 (wrap64 ((rd x0 x13) - x6))))) then (if (wrap64 ((wrap64 (2 * x6)) + (rd x1 (wrap64 ((rd x0 x13) - x6))))) < (x7.length : Int) then (pomaderef07_product.l3 k x0 x1 x6 (((x7.set (x13 : Int).toNat true).set ((rd x0 x13) : Int).toNat true).set ((wrap64 ((wrap64 (2 * x6)) + (rd x1 (wrap64 ((rd x0 x13) - x6))))) : Int).toNat true) x8 x11 x12 (wrap64 ((wrap64 ((wrap64 (2 * x6)) + (rd x1 (wrap64 ((rd x0 x13) - x6))))) - x6))) else (none)) else (none)) else (none)) else (none)) else (none)) else (none)) else (none))) else (none)) else (none)
end
def pomaderef07_product.f (k : Nat) (l0 : List Int) (l1 : List Int) : Option (List Int × Int) := if 0 ≤ (wrap64 (4 * (wrap64 ((l0.length : Int) / 2)))) then (if (wrap64 (4 * (wrap64 ((l0.length : Int) / 2))) : Int).toNat ≤ 281474976710656 then (if 0 ≤ (wrap64 (2 * (wrap64 ((l0.length : Int) / 2)))) then (if (wrap64 (2 * (wrap64 ((l0.length : Int) / 2))) : Int).toNat ≤ 35184372088832 then (pomaderef07_product.l0 k l0 l1 (wrap64 ((l0.length : Int) / 2)) (List.replicate (wrap64 (4 * (wrap64 ((l0.length : Int) / 2))) : Int).toNat false) (List.replicate (wrap64 (2 * (wrap64 ((l0.length : Int) / 2))) : Int).toNat 0) 0) else (none)) else (none)) else (none)) else (none)
theorem pomaderef07_product.mono_l : ∀ k, (∀ y0 y1 y2 y3 y4 y5, LeO (pomaderef07_product.l0 k y0 y1 y2 y3 y4 y5) (pomaderef07_product.l0 (k + 1) y0 y1 y2 y3 y4 y5)) ∧ (∀ y0 y1 y2 y3 y4 y5 y6, LeO (pomaderef07_product.j1 k y0 y1 y2 y3 y4 y5 y6) (pomaderef07_product.j1 (k + 1) y0 y1 y2 y3 y4 y5 y6)) ∧ (∀ y0 y1 y2 y3 y4 y5 y6, LeO (pomaderef07_product.l1 k y0 y1 y2 y3 y4 y5 y6) (pomaderef07_product.l1 (k + 1) y0 y1 y2 y3 y4 y5 y6)) ∧ (∀ y0 y1 y2 y3 y4 y5 y6, LeO (pomaderef07_product.j3 k y0 y1 y2 y3 y4 y5 y6) (pomaderef07_product.j3 (k + 1) y0 y1 y2 y3 y4 y5 y6)) ∧ (∀ y0 y1 y2 y3 y4 y5 y6 y7, LeO (pomaderef07_product.j4 k y0 y1 y2 y3 y4 y5 y6 y7) (pomaderef07_product.j4 (k + 1) y0 y1 y2 y3 y4 y5 y6 y7)) ∧ (∀ y0 y1 y2 y3 y4 y5 y6, LeO (pomaderef07_product.l2 k y0 y1 y2 y3 y4 y5 y6) (pomaderef07_product.l2 (k + 1) y0 y1 y2 y3 y4 y5 y6)) ∧ (∀ y0 y1 y2 y3 y4 y5 y6 y7, LeO (pomaderef07_product.l3 k y0 y1 y2 y3 y4 y5 y6 y7) (pomaderef07_product.l3 (k + 1) y0 y1 y2 y3 y4 y5 y6 y7))
  | 0 => ⟨fun _ _ _ _ _ _ r h => by simp [pomaderef07_product.l0] at h, fun _ _ _ _ _ _ _ r h => by simp [pomaderef07_product.j1] at h, fun _ _ _ _ _ _ _ r h => by simp [pomaderef07_product.l1] at h, fun _ _ _ _ _ _ _ r h => by simp [pomaderef07_product.j3] at h, fun _ _ _ _ _ _ _ _ r h => by simp [pomaderef07_product.j4] at h, fun _ _ _ _ _ _ _ r h => by simp [pomaderef07_product.l2] at h, fun _ _ _ _ _ _ _ _ r h => by simp [pomaderef07_product.l3] at h⟩
  | k + 1 => by
    obtain ⟨ih0, ih1, ih2, ih3, ih4, ih5, ih6⟩ := pomaderef07_product.mono_l k
    refine ⟨?_, ?_, ?_, ?_, ?_, ?_, ?_⟩
    · intro y0 y1 y2 y3 y4 y5
      unfold pomaderef07_product.l0
      repeat' first
      | (with_reducible exact ih0 _ _ _ _ _ _)
      | (with_reducible exact ih1 _ _ _ _ _ _ _)
      | (with_reducible exact ih2 _ _ _ _ _ _ _)
      | (with_reducible exact ih3 _ _ _ _ _ _ _)
      | (with_reducible exact ih4 _ _ _ _ _ _ _ _)
      | (with_reducible exact ih5 _ _ _ _ _ _ _)
      | (with_reducible exact ih6 _ _ _ _ _ _ _ _)
      | (with_reducible exact LeO.refl _)
      | (with_reducible exact LeO.none _)
      | (with_reducible refine LeO.ite ?_ ?_)
      | (with_reducible refine LeO.bind ?_ (fun _ => ?_))
      | exact ih0 _ _ _ _ _ _
      | exact ih1 _ _ _ _ _ _ _
      | exact ih2 _ _ _ _ _ _ _
      | exact ih3 _ _ _ _ _ _ _
      | exact ih4 _ _ _ _ _ _ _ _
      | exact ih5 _ _ _ _ _ _ _
      | exact ih6 _ _ _ _ _ _ _ _
      | exact LeO.none _
      | refine LeO.ite ?_ ?_
      | refine LeO.bind ?_ (fun _ => ?_)
    · intro y0 y1 y2 y3 y4 y5 y6
      unfold pomaderef07_product.j1
      repeat' first
      | (with_reducible exact ih0 _ _ _ _ _ _)
      | (with_reducible exact ih1 _ _ _ _ _ _ _)
      | (with_reducible exact ih2 _ _ _ _ _ _ _)
      | (with_reducible exact ih3 _ _ _ _ _ _ _)
      | (with_reducible exact ih4 _ _ _ _ _ _ _ _)
      | (with_reducible exact ih5 _ _ _ _ _ _ _)
      | (with_reducible exact ih6 _ _ _ _ _ _ _ _)
      | (with_reducible exact LeO.refl _)
      | (with_reducible exact LeO.none _)
      | (with_reducible refine LeO.ite ?_ ?_)
      | (with_reducible refine LeO.bind ?_ (fun _ => ?_))
      | exact ih0 _ _ _ _ _ _
      | exact ih1 _ _ _ _ _ _ _
      | exact ih2 _ _ _ _ _ _ _
      | exact ih3 _ _ _ _ _ _ _
      | exact ih4 _ _ _ _ _ _ _ _
      | exact ih5 _ _ _ _ _ _ _
      | exact ih6 _ _ _ _ _ _ _ _
      | exact LeO.none _
      | refine LeO.ite ?_ ?_
      | refine LeO.bind ?_ (fun _ => ?_)
    · intro y0 y1 y2 y3 y4 y5 y6
      unfold pomaderef07_product.l1
      repeat' first
      | (with_reducible exact ih0 _ _ _ _ _ _)
      | (with_reducible exact ih1 _ _ _ _ _ _ _)
      | (with_reducible exact ih2 _ _ _ _ _ _ _)
      | (with_reducible exact ih3 _ _ _ _ _ _ _)
      | (with_reducible exact ih4 _ _ _ _ _ _ _ _)
      | (with_reducible exact ih5 _ _ _ _ _ _ _)
      | (with_reducible exact ih6 _ _ _ _ _ _ _ _)
      | (with_reducible exact LeO.refl _)
      | (with_reducible exact LeO.none _)
      | (with_reducible refine LeO.ite ?_ ?_)
      | (with_reducible refine LeO.bind ?_ (fun _ => ?_))
      | exact ih0 _ _ _ _ _ _
      | exact ih1 _ _ _ _ _ _ _
      | exact ih2 _ _ _ _ _ _ _
      | exact ih3 _ _ _ _ _ _ _
      | exact ih4 _ _ _ _ _ _ _ _
      | exact ih5 _ _ _ _ _ _ _
      | exact ih6 _ _ _ _ _ _ _ _
      | exact LeO.none _
      | refine LeO.ite ?_ ?_
      | refine LeO.bind ?_ (fun _ => ?_)
    · intro y0 y1 y2 y3 y4 y5 y6
      unfold pomaderef07_product.j3
      repeat' first
      | (with_reducible exact ih0 _ _ _ _ _ _)
      | (with_reducible exact ih1 _ _ _ _ _ _ _)
      | (with_reducible exact ih2 _ _ _ _ _ _ _)
      | (with_reducible exact ih3 _ _ _ _ _ _ _)
      | (with_reducible exact ih4 _ _ _ _ _ _ _ _)
      | (with_reducible exact ih5 _ _ _ _ _ _ _)
      | (with_reducible exact ih6 _ _ _ _ _ _ _ _)
      | (with_reducible exact LeO.refl _)
      | (with_reducible exact LeO.none _)
      | (with_reducible refine LeO.ite ?_ ?_)
      | (with_reducible refine LeO.bind ?_ (fun _ => ?_))
      | exact ih0 _ _ _ _ _ _
      | exact ih1 _ _ _ _ _ _ _
      | exact ih2 _ _ _ _ _ _ _
      | exact ih3 _ _ _ _ _ _ _
      | exact ih4 _ _ _ _ _ _ _ _
      | exact ih5 _ _ _ _ _ _ _
      | exact ih6 _ _ _ _ _ _ _ _
      | exact LeO.none _
      | refine LeO.ite ?_ ?_
      | refine LeO.bind ?_ (fun _ => ?_)
    · intro y0 y1 y2 y3 y4 y5 y6 y7
      unfold pomaderef07_product.j4
      repeat' first
      | (with_reducible exact ih0 _ _ _ _ _ _)
      | (with_reducible exact ih1 _ _ _ _ _ _ _)
      | (with_reducible exact ih2 _ _ _ _ _ _ _)
      | (with_reducible exact ih3 _ _ _ _ _ _ _)
      | (with_reducible exact ih4 _ _ _ _ _ _ _ _)
      | (with_reducible exact ih5 _ _ _ _ _ _ _)
      | (with_reducible exact ih6 _ _ _ _ _ _ _ _)
      | (with_reducible exact LeO.refl _)
      | (with_reducible exact LeO.none _)
      | (with_reducible refine LeO.ite ?_ ?_)
      | (with_reducible refine LeO.bind ?_ (fun _ => ?_))
      | exact ih0 _ _ _ _ _ _
      | exact ih1 _ _ _ _ _ _ _
      | exact ih2 _ _ _ _ _ _ _
      | exact ih3 _ _ _ _ _ _ _
      | exact ih4 _ _ _ _ _ _ _ _
      | exact ih5 _ _ _ _ _ _ _
      | exact ih6 _ _ _ _ _ _ _ _
      | exact LeO.none _
      | refine LeO.ite ?_ ?_
      | refine LeO.bind ?_ (fun _ => ?_)
    · intro y0 y1 y2 y3 y4 y5 y6
      unfold pomaderef07_product.l2
      repeat' first
      | (with_reducible exact ih0 _ _ _ _ _ _)
      | (with_reducible exact ih1 _ _ _ _ _ _ _)
      | (with_reducible exact ih2 _ _ _ _ _ _ _)
      | (with_reducible exact ih3 _ _ _ _ _ _ _)
      | (with_reducible exact ih4 _ _ _ _ _ _ _ _)
      | (with_reducible exact ih5 _ _ _ _ _ _ _)
      | (with_reducible exact ih6 _ _ _ _ _ _ _ _)
      | (with_reducible exact LeO.refl _)
      | (with_reducible exact LeO.none _)
      | (with_reducible refine LeO.ite ?_ ?_)
      | (with_reducible refine LeO.bind ?_ (fun _ => ?_))
      | exact ih0 _ _ _ _ _ _
      | exact ih1 _ _ _ _ _ _ _
      | exact ih2 _ _ _ _ _ _ _
      | exact ih3 _ _ _ _ _ _ _
      | exact ih4 _ _ _ _ _ _ _ _
      | exact ih5 _ _ _ _ _ _ _
      | exact ih6 _ _ _ _ _ _ _ _
      | exact LeO.none _
      | refine LeO.ite ?_ ?_
      | refine LeO.bind ?_ (fun _ => ?_)
    · intro y0 y1 y2 y3 y4 y5 y6 y7
      unfold pomaderef07_product.l3
      repeat' first
      | (with_reducible exact ih0 _ _ _ _ _ _)
      | (with_reducible exact ih1 _ _ _ _ _ _ _)
      | (with_reducible exact ih2 _ _ _ _ _ _ _)
      | (with_reducible exact ih3 _ _ _ _ _ _ _)
      | (with_reducible exact ih4 _ _ _ _ _ _ _ _)
      | (with_reducible exact ih5 _ _ _ _ _ _ _)
      | (with_reducible exact ih6 _ _ _ _ _ _ _ _)
      | (with_reducible exact LeO.refl _)
      | (with_reducible exact LeO.none _)
      | (with_reducible refine LeO.ite ?_ ?_)
      | (with_reducible refine LeO.bind ?_ (fun _ => ?_))
      | exact ih0 _ _ _ _ _ _
      | exact ih1 _ _ _ _ _ _ _
      | exact ih2 _ _ _ _ _ _ _
      | exact ih3 _ _ _ _ _ _ _
      | exact ih4 _ _ _ _ _ _ _ _
      | exact ih5 _ _ _ _ _ _ _
      | exact ih6 _ _ _ _ _ _ _ _
      | exact LeO.none _
      | refine LeO.ite ?_ ?_
      | refine LeO.bind ?_ (fun _ => ?_)
theorem pomaderef07_product.mono : ∀ a0 a1 k, LeO (pomaderef07_product.f k a0 a1) (pomaderef07_product.f (k + 1) a0 a1) := by
  intro a0 a1 k
  obtain ⟨ih0, ih1, ih2, ih3, ih4, ih5, ih6⟩ := pomaderef07_product.mono_l k
  unfold pomaderef07_product.f
  repeat' first
      | (with_reducible exact ih0 _ _ _ _ _ _)
      | (with_reducible exact ih1 _ _ _ _ _ _ _)
      | (with_reducible exact ih2 _ _ _ _ _ _ _)
      | (with_reducible exact ih3 _ _ _ _ _ _ _)
      | (with_reducible exact ih4 _ _ _ _ _ _ _ _)
      | (with_reducible exact ih5 _ _ _ _ _ _ _)
      | (with_reducible exact ih6 _ _ _ _ _ _ _ _)
      | (with_reducible exact LeO.refl _)
      | (with_reducible exact LeO.none _)
      | (with_reducible refine LeO.ite ?_ ?_)
      | (with_reducible refine LeO.bind ?_ (fun _ => ?_))
      | exact ih0 _ _ _ _ _ _
      | exact ih1 _ _ _ _ _ _ _
      | exact ih2 _ _ _ _ _ _ _
      | exact ih3 _ _ _ _ _ _ _
      | exact ih4 _ _ _ _ _ _ _ _
      | exact ih5 _ _ _ _ _ _ _
      | exact ih6 _ _ _ _ _ _ _ _
      | exact LeO.none _
      | refine LeO.ite ?_ ?_
      | refine LeO.bind ?_ (fun _ => ?_)
set_option maxHeartbeats 8000000 in
set_option maxRecDepth 100000 in
theorem pomaderef07_product.calls (k : Nat) (A0 : Option Addr) (c0 : Nat) (l0 : List Int) (A1 : Option Addr) (c1 : Nat) (l1 : List Int) (r1 : List Int) (r2 : Int) (w : World) (hr0 : Kd.C (Kd.int .i64) w A0 l0.length l0) (hc0 : l0.length ≤ c0) (hr1 : Kd.C (Kd.int .i64) w A1 l1.length l1) (hc1 : l1.length ≤ c1) (h : pomaderef07_product.f k l0 l1 = some (r1, r2)) :
    Calls Try.prog 58 #[.slice A0 l0.length c0, .slice A1 l1.length c1] w fun e w' => ∃ v0_ : Value, e = .returned (.tuple #[v0_, .int .i64 r2]) ∧ Kd.R (Kd.int .i64) 3 w' w.heap.size (fun _ => True) v0_ r1 ∧ Below w.heap.size w w' := by
  have HR0 := Aside0.mk hr0
  have HC0 := Aside0.mk hc0
  clear hr0 hc0
  have HR1 := Aside0.mk hr1
  have HC1 := Aside0.mk hc1
  clear hr1 hc1
  have HB := Aside0.mk (Below.refl w.heap.size w)
  have H : (if 0 ≤ (wrap64 (4 * (wrap64 ((l0.length : Int) / 2)))) then (if (wrap64 (4 * (wrap64 ((l0.length : Int) / 2))) : Int).toNat ≤ 281474976710656 then (if 0 ≤ (wrap64 (2 * (wrap64 ((l0.length : Int) / 2)))) then (if (wrap64 (2 * (wrap64 ((l0.length : Int) / 2))) : Int).toNat ≤ 35184372088832 then (pomaderef07_product.l0 k l0 l1 (wrap64 ((l0.length : Int) / 2)) (List.replicate (wrap64 (4 * (wrap64 ((l0.length : Int) / 2))) : Int).toNat false) (List.replicate (wrap64 (2 * (wrap64 ((l0.length : Int) / 2))) : Int).toNat 0) 0) else (none)) else (none)) else (none)) else (none)) = some (r1, r2) := h
  clear h
  obtain ⟨ji3, hji3⟩ : ∃ j_ : Int, (wrap64 (4 * (wrap64 ((l0.length : Int) / 2)))) = j_ := ⟨_, rfl⟩
  replace H : (if 0 ≤ (ji3) then (if (ji3 : Int).toNat ≤ 281474976710656 then (if 0 ≤ (wrap64 (2 * (wrap64 ((l0.length : Int) / 2)))) then (if (wrap64 (2 * (wrap64 ((l0.length : Int) / 2))) : Int).toNat ≤ 35184372088832 then (pomaderef07_product.l0 k l0 l1 (wrap64 ((l0.length : Int) / 2)) (List.replicate (ji3 : Int).toNat false) (List.replicate (wrap64 (2 * (wrap64 ((l0.length : Int) / 2))) : Int).toNat 0) 0) else (none)) else (none)) else (none)) else (none)) = some (r1, r2) := by first | (rw [hji3] at H; exact H) | (simp only [hji3] at H ⊢; exact H)
  have hji3w : (IntKind.i64.wrap (4 * (wrap64 ((l0.length : Int) / 2)))) = ji3 := (i64_w _).trans hji3
  by_cases c4 : 0 ≤ (ji3)
  · rw [if_pos c4] at H
    have c4b0 := eq_true c4
    have c4b1 : decide (0 ≤ (ji3)) = true := decide_eq_true c4
    clear c4
    by_cases c5 : (ji3 : Int).toNat ≤ 281474976710656
    · rw [if_pos c5] at H
      have c5b0 := eq_true c5
      have c5b1 : decide ((ji3 : Int).toNat ≤ 281474976710656) = true := decide_eq_true c5
      clear c5
      obtain ⟨y276, hy276⟩ : ∃ y_ : List Bool, y_ = (List.replicate (ji3 : Int).toNat false) := ⟨_, rfl⟩
      replace H : (if 0 ≤ (wrap64 (2 * (wrap64 ((l0.length : Int) / 2)))) then (if (wrap64 (2 * (wrap64 ((l0.length : Int) / 2))) : Int).toNat ≤ 35184372088832 then (pomaderef07_product.l0 k l0 l1 (wrap64 ((l0.length : Int) / 2)) y276 (List.replicate (wrap64 (2 * (wrap64 ((l0.length : Int) / 2))) : Int).toNat 0) 0) else (none)) else (none)) = some (r1, r2) := by first | (rw [hy276]; with_reducible exact H) | (have H2_ := (Option.bind_some _ _).symm.trans H; rw [hy276]; with_reducible exact H2_) | (have H2_ := (Option.bind_some _ _).symm.trans H; with_reducible exact H2_) | with_reducible exact H | (rw [hy276]; exact H) | exact H
      have Ny276 := Aside0.mk hy276
      clear hy276
      obtain ⟨ji6, hji6⟩ : ∃ j_ : Int, (wrap64 (2 * (wrap64 ((l0.length : Int) / 2)))) = j_ := ⟨_, rfl⟩
      replace H : (if 0 ≤ (ji6) then (if (ji6 : Int).toNat ≤ 35184372088832 then (pomaderef07_product.l0 k l0 l1 (wrap64 ((l0.length : Int) / 2)) y276 (List.replicate (ji6 : Int).toNat 0) 0) else (none)) else (none)) = some (r1, r2) := by first | (rw [hji6] at H; exact H) | (simp only [hji6] at H ⊢; exact H)
      have hji6w : (IntKind.i64.wrap (2 * (wrap64 ((l0.length : Int) / 2)))) = ji6 := (i64_w _).trans hji6
      (try simp only [hji3] at hji6)
      (try simp only [hji3] at hji6w)
      by_cases c7 : 0 ≤ (ji6)
      · rw [if_pos c7] at H
        have c7b0 := eq_true c7
        have c7b1 : decide (0 ≤ (ji6)) = true := decide_eq_true c7
        clear c7
        by_cases c8 : (ji6 : Int).toNat ≤ 35184372088832
        · rw [if_pos c8] at H
          have c8b0 := eq_true c8
          have c8b1 : decide ((ji6 : Int).toNat ≤ 35184372088832) = true := decide_eq_true c8
          clear c8
          obtain ⟨y279, hy279⟩ : ∃ y_ : List Int, y_ = (List.replicate (ji6 : Int).toNat 0) := ⟨_, rfl⟩
          replace H : (pomaderef07_product.l0 k l0 l1 (wrap64 ((l0.length : Int) / 2)) y276 y279 0) = some (r1, r2) := by first | (rw [hy279]; with_reducible exact H) | (have H2_ := (Option.bind_some _ _).symm.trans H; rw [hy279]; with_reducible exact H2_) | (have H2_ := (Option.bind_some _ _).symm.trans H; with_reducible exact H2_) | with_reducible exact H | (rw [hy279]; exact H) | exact H
          have Ny279 := Aside0.mk hy279
          clear hy279
          have H' := Aside0.mk H
          clear H
          go_enter Try.func58, Try.ntmps58
          go_wp2_with (first | ((with_reducible refine gate_dst (N := 19) rfl ?_); refine Kd.R_make Kd.bool _ 4 rfl (N := 19) rfl 69 _ _ rfl ji3 rfl rfl Try.underlying69 (.bool false) 1 info4 rfl (by decide) (by omega) false (ok := fun _ => True) (okp := fun _ => True) rfl (fun _ hk => hk) trivial (of_decide_eq_true (by first | (with_reducible assumption) | assumption)) (Nat.le_trans (Nat.mul_le_mul_right _ (of_decide_eq_true (by first | (with_reducible assumption) | assumption) : ji3.toNat ≤ 281474976710656)) (by omega)) (Below.refl _ _) (Nat.le_refl _) ?_; intro v277 w9 ho10 hb hg_ hnew_; clear hg_ hnew_; (first | rw [← Ny276.out] at ho10 | (simp only [Int.reduceToNat] at ho10; rw [← Ny276.out] at ho10)); have n0_ := Aside0.mk (Kd.R_lower ho10 (below_size (by repeat (first | (with_reducible first | exact HB.out | apply below_alloc | apply pw_below_drewN | apply below_drew1) | exact HB.out)))); have n1_ := Aside0.mk (below_step (by repeat (first | (with_reducible first | exact HB.out | apply below_alloc | apply pw_below_drewN | apply below_drew1) | exact HB.out)) hb); clear HB; have HO278 := n0_; have HB := n1_; clear n0_ n1_; clear hb ho10) | ((with_reducible refine gate_dst (N := 22) rfl ?_); refine Kd.R_make (Kd.int .i64) _ 3 rfl (N := 22) rfl 22 _ _ rfl ji6 rfl rfl Try.underlying22 (.int .i64 0) 8 info3 rfl (by decide) (by omega) 0 (ok := fun _ => True) (okp := fun _ => True) rfl (fun _ hk => hk) trivial (of_decide_eq_true (by first | (with_reducible assumption) | assumption)) (Nat.le_trans (Nat.mul_le_mul_right _ (of_decide_eq_true (by first | (with_reducible assumption) | assumption) : ji6.toNat ≤ 35184372088832)) (by omega)) (Below.refl _ _) (Nat.le_refl _) ?_; intro v280 w11 ho12 hb hg_ hnew_; clear hg_ hnew_; (first | rw [← Ny279.out] at ho12 | (simp only [Int.reduceToNat] at ho12; rw [← Ny279.out] at ho12)); have n0_ := Aside0.mk (Kd.R_below (by (with_reducible repeat (first | apply Kd.R_alloc | apply Kd.R_drewN | apply Kd.R_drew)); exact HO278.out) hb); have n1_ := Aside0.mk (Kd.R_lower ho12 (below_size (by repeat (first | (with_reducible first | exact HB.out | apply below_alloc | apply pw_below_drewN | apply below_drew1) | exact HB.out)))); have n2_ := Aside0.mk (below_step (by repeat (first | (with_reducible first | exact HB.out | apply below_alloc | apply pw_below_drewN | apply below_drew1) | exact HB.out)) hb); clear HO278; clear HB; have HO278 := n0_; have HO281 := n1_; have HB := n2_; clear n0_ n1_ n2_; clear hb ho12))
          go_loopg [9] k (fun kq v9 w' => ∃ (x7_1 : List Bool) (x8_1 : List Int) (x9_1 : Int), v9 = .int .i64 x9_1 ∧ Aside0 (pomaderef07_product.l0 kq l0 l1 (wrap64 ((l0.length : Int) / 2)) x7_1 x8_1 x9_1 = some (r1, r2)) ∧ Aside0 (kq ≤ k) ∧ Aside0 (Kd.R Kd.bool 4 w' w.heap.size (fun _ => True) v277 x7_1) ∧ Aside0 (Kd.R (Kd.int .i64) 3 w' w.heap.size (fun _ => True) v280 x8_1) ∧ Aside0 (Below w.heap.size w w'))
          case atStart => exact ⟨(y276), (y279), (0), (by first | rfl | (simp; done) | (simp [*]; done)), H', ⟨Nat.le_refl _⟩, ⟨by (with_reducible repeat (first | apply Kd.R_alloc | apply Kd.R_drewN | apply Kd.R_drew)); exact HO278.out⟩, ⟨by (with_reducible repeat (first | apply Kd.R_alloc | apply Kd.R_drewN | apply Kd.R_drew)); exact HO281.out⟩, ⟨by repeat (first | (with_reducible first | exact HB.out | apply below_alloc | apply pw_below_drewN | apply below_drew1) | exact HB.out)⟩⟩
          case round =>
            clear H'
            try clear c1
            try clear p2
            try clear c4
            try clear c4b0
            try clear c4b1
            try clear c5
            try clear c5b0
            try clear c5b1
            try clear p6
            try clear c7
            try clear c7b0
            try clear c7b1
            try clear c8
            try clear c8b0
            try clear c8b1
            obtain ⟨x7_1, x8_1, x9_1, rfl, HA, HK1, HO_7, HO_8, HB⟩ := hrel
            cases gk with
            | zero => exact absurd HA.out (by simp [pomaderef07_product.l0])
            | succ k1 =>
              have H := HA.out
              clear HA
              simp only [pomaderef07_product.l0] at H
              by_cases c13 : x9_1 < (wrap64 (2 * (wrap64 ((l0.length : Int) / 2))))
              · rw [if_pos c13] at H
                have c13b0 : decide (x9_1 < (wrap64 (2 * (wrap64 ((l0.length : Int) / 2))))) = true := decide_eq_true c13
                (try simp only [hji3] at c13b0)
                (try simp only [hji6] at c13b0)
                clear c13
                have HC14 := Aside0.mk H
                clear H
                go_upto_if 32 with (fail)
                go_cut [10] (fun v10 wc => ∃ (kq : Nat) (x10_13 : Int), v10 = .int .i64 x10_13 ∧ Aside0 (pomaderef07_product.j1 kq l0 l1 (wrap64 ((l0.length : Int) / 2)) x7_1 x8_1 x9_1 x10_13 = some (r1, r2)) ∧ Aside0 (kq ≤ k1) ∧ Aside0 (Kd.R Kd.bool 4 wc w.heap.size (fun _ => True) v277 x7_1) ∧ Aside0 (Kd.R (Kd.int .i64) 3 wc w.heap.size (fun _ => True) v280 x8_1) ∧ Aside0 (Below w.heap.size w wc))
                case first =>
                  have H := HC14.out
                  clear HC14
                  by_cases c15 : x9_1 ≥ (wrap64 ((l0.length : Int) / 2))
                  · rw [if_pos c15] at H
                    have c15b0 : decide ((wrap64 ((l0.length : Int) / 2)) ≤ x9_1) = true := decide_eq_true c15
                    (try simp only [hji3] at c15b0)
                    (try simp only [hji6] at c15b0)
                    clear c15
                    (first | rw [c15b0] | (simp only [i64_w, i32_w]; rw [c15b0]) | skip)
                    have H' := Aside0.mk H
                    clear H
                    go_wp2
                    go_meet
                    case rel => exact ⟨_, (wrap64 (x9_1 + (wrap64 (2 * (wrap64 ((l0.length : Int) / 2)))))), (by first | rfl | (simp; done) | (simp [*]; done)), H', ⟨by have := HK1.out; first | omega | exact Nat.le_refl _⟩, ⟨by (with_reducible repeat (first | apply Kd.R_alloc | apply Kd.R_drewN | apply Kd.R_drew)); exact HO_7.out⟩, ⟨by (with_reducible repeat (first | apply Kd.R_alloc | apply Kd.R_drewN | apply Kd.R_drew)); exact HO_8.out⟩, ⟨by repeat (first | (with_reducible first | exact HB.out | apply below_alloc | apply pw_below_drewN | apply below_drew1) | exact HB.out)⟩⟩
                  · rw [if_neg c15] at H
                    have c15b0 : decide ((wrap64 ((l0.length : Int) / 2)) ≤ x9_1) = false := decide_eq_false c15
                    (try simp only [hji3] at c15b0)
                    (try simp only [hji6] at c15b0)
                    clear c15
                    (first | rw [c15b0] | (simp only [i64_w, i32_w]; rw [c15b0]) | skip)
                    have H' := Aside0.mk H
                    clear H
                    go_wp2
                    go_meet
                    case rel => exact ⟨_, (x9_1), (by first | rfl | (simp; done) | (simp [*]; done)), H', ⟨by have := HK1.out; first | omega | exact Nat.le_refl _⟩, ⟨by (with_reducible repeat (first | apply Kd.R_alloc | apply Kd.R_drewN | apply Kd.R_drew)); exact HO_7.out⟩, ⟨by (with_reducible repeat (first | apply Kd.R_alloc | apply Kd.R_drewN | apply Kd.R_drew)); exact HO_8.out⟩, ⟨by repeat (first | (with_reducible first | exact HB.out | apply below_alloc | apply pw_below_drewN | apply below_drew1) | exact HB.out)⟩⟩
                case rest =>
                  clear HC14
                  try clear c1
                  try clear p2
                  try clear c4
                  try clear c4b0
                  try clear c4b1
                  try clear c5
                  try clear c5b0
                  try clear c5b1
                  try clear p6
                  try clear c7
                  try clear c7b0
                  try clear c7b1
                  try clear c8
                  try clear c8b0
                  try clear c8b1
                  try clear c13
                  try clear c13b0
                  try clear c15
                  try clear c15b0
                  try clear p2
                  try clear p6
                  obtain ⟨kq, x10_13, rfl, HA, HJ13, HO_7, HO_8, HB⟩ := hcut
                  cases kq with
                  | zero => exact absurd HA.out (by simp [pomaderef07_product.j1])
                  | succ kj13 =>
                    have H := HA.out
                    clear HA
                    simp only [pomaderef07_product.j1] at H
                    by_cases c16 : 0 ≤ x10_13
                    · rw [if_pos c16] at H
                      have c16b0 : decide (0 ≤ x10_13) = true := decide_eq_true c16
                      clear c16
                      by_cases c17 : x10_13 < (x7_1.length : Int)
                      · rw [if_pos c17] at H
                        have c17b0 : decide (x10_13 < (x7_1.length : Int)) = true := decide_eq_true c17
                        clear c17
                        obtain ⟨y282, hy282⟩ : ∃ y_ : List Bool, y_ = (x7_1.set (x10_13 : Int).toNat true) := ⟨_, rfl⟩
                        replace H : (pomaderef07_product.l1 kj13 l0 l1 (wrap64 ((l0.length : Int) / 2)) y282 x8_1 x9_1 x10_13) = some (r1, r2) := by first | (rw [hy282]; with_reducible exact H) | (have H2_ := (Option.bind_some _ _).symm.trans H; rw [hy282]; with_reducible exact H2_) | (have H2_ := (Option.bind_some _ _).symm.trans H; with_reducible exact H2_) | with_reducible exact H | (rw [hy282]; exact H) | exact H
                        have Ny282 := Aside0.mk hy282
                        clear hy282
                        have H' := Aside0.mk H
                        clear H
                        have p18 : 0 ≤ (x10_13 : Int) := of_decide_eq_true (by first | (with_reducible assumption) | assumption)
                        have q18 : (x10_13 : Int) < ((x7_1.length : Int) : Int) := of_decide_eq_true (by first | (with_reducible assumption) | assumption)
                        obtain ⟨go18, co18, eo18, gb18, gl18, cl18, HG18⟩ := Kd.R_form HO_7.out (by omega)
                        (first | cases eo18 | (injection eo18 with ea_ en_ ec_; (first | subst ea_ | (injection ea_ with ea_; subst ea_)); subst ec_; clear en_))
                        (try simp only [add_plain] at *)
                        have GB18 := Aside0.mk gb18
                        have GG18 := Aside0.mk HG18
                        clear gb18 gl18 HG18
                        obtain ⟨hx18_0, hf18_0⟩ := Kd.R_celln false HO_7.out (x10_13 : Int) p18 q18
                        replace p18 := eq_true p18
                        replace q18 := eq_true q18
                        have HP19 := Kd.R_putg HO_7.out (x10_13 : Int) true
                        go_wp2_with (first | ((with_reducible refine gate_store (t := 4) (p := 39) rfl ?_); refine store_event (t := 4) (p := 39) (v := ?vo_w20) (w1 := (wc.setCell ⟨go18, (x10_13 : Int).toNat, none⟩ (.bool true))) ?hg ?ho ?hn ?hr ?_; (case ho => rfl); (case hg => rfl); (case hn => rfl); (case hr => first | (go_simp; done) | (go_simp; rfl)); intro w20 hw; have hg : wc.grownBy w20 (some go18) := (by rw [hw]; exact HP19.2); have hp_ : Kd.R Kd.bool 4 w20 w.heap.size (fun _ => True) (.slice (some ⟨go18, 0, none⟩) x7_1.length co18) y282 := (by rw [hw, Ny282.out]; exact HP19.1); clear HP19; have n0_ := Aside0.mk (hp_); have n1_ := Aside0.mk (Kd.R_over' (v := (.slice (some ⟨go18, 0, none⟩) x7_1.length co18)) (by (with_reducible repeat (first | apply Kd.R_alloc | apply Kd.R_drewN | apply Kd.R_drew)); exact HO_8.out) (Kd.R_typed HO_7.out) (by decide) hg); have n2_ := Aside0.mk ((by rw [hw]; exact below_set (HB.out) GB18.out : Below w.heap.size w w20)); clear HO_7; clear HO_8; clear HB; have HO_7 := n0_; have HO_8 := n1_; have HB := n2_; clear n0_ n1_ n2_; clear hg hw hp_))
                        go_loopg [10] kj13 (fun kq v10 w' => ∃ (x7_3 : List Bool) (x10_3 : Int), v10 = .int .i64 x10_3 ∧ Aside0 (pomaderef07_product.l1 kq l0 l1 (wrap64 ((l0.length : Int) / 2)) x7_3 x8_1 x9_1 x10_3 = some (r1, r2)) ∧ Aside0 (kq ≤ kj13) ∧ Aside0 (Kd.R Kd.bool 4 w' w.heap.size (fun _ => True) (.slice (some ⟨go18, 0, none⟩) x7_1.length co18) x7_3) ∧ Aside0 (Kd.R (Kd.int .i64) 3 w' w.heap.size (fun _ => True) v280 x8_1) ∧ Aside0 (Below w.heap.size w w'))
                        case atStart => exact ⟨(y282), (x10_13), (by first | rfl | (simp; done) | (simp [*]; done)), H', ⟨Nat.le_refl _⟩, ⟨by (with_reducible repeat (first | apply Kd.R_alloc | apply Kd.R_drewN | apply Kd.R_drew)); exact HO_7.out⟩, ⟨by (with_reducible repeat (first | apply Kd.R_alloc | apply Kd.R_drewN | apply Kd.R_drew)); exact HO_8.out⟩, ⟨by repeat (first | (with_reducible first | exact HB.out | apply below_alloc | apply pw_below_drewN | apply below_drew1) | exact HB.out)⟩⟩
                        case round =>
                          clear H'
                          try clear c1
                          try clear p1
                          try clear q1
                          try clear hx1
                          try clear p2
                          try clear c4
                          try clear c4b0
                          try clear c4b1
                          try clear c5
                          try clear c5b0
                          try clear c5b1
                          try clear p6
                          try clear c7
                          try clear c7b0
                          try clear c7b1
                          try clear c8
                          try clear c8b0
                          try clear c8b1
                          try clear c13
                          try clear c13b0
                          try clear c15
                          try clear c15b0
                          try clear c16
                          try clear c16b0
                          try clear c17
                          try clear c17b0
                          try clear p18
                          try clear q18
                          try clear hx18
                          try clear hf18
                          try clear hx18_0
                          try clear p18
                          try clear p2
                          try clear p6
                          try clear q18
                          obtain ⟨x7_3, x10_3, rfl, HA, HK3, HO_7, HO_8, HB⟩ := hrel
                          have hl7_3 := (Kd.R_reads' HO_7.out).1
                          rw [hl7_3] at HO_7
                          (try simp only [hl7_3])
                          (try simp only [hl7_3] at HO_8)
                          cases gk with
                          | zero => exact absurd HA.out (by simp [pomaderef07_product.l1])
                          | succ k3 =>
                            have H := HA.out
                            clear HA
                            simp only [pomaderef07_product.l1] at H
                            have HC21 := Aside0.mk H
                            clear H
                            go_upto_if 43 with (fail)
                            go_cut [10] (fun v10 wc => ∃ (kq : Nat) (x10_20 : Int), v10 = .int .i64 x10_20 ∧ Aside0 (pomaderef07_product.j3 kq l0 l1 (wrap64 ((l0.length : Int) / 2)) x7_3 x8_1 x9_1 x10_20 = some (r1, r2)) ∧ Aside0 (kq ≤ k3) ∧ Aside0 (Kd.R Kd.bool 4 wc w.heap.size (fun _ => True) (.slice (some ⟨go18, 0, none⟩) x7_3.length co18) x7_3) ∧ Aside0 (Kd.R (Kd.int .i64) 3 wc w.heap.size (fun _ => True) v280 x8_1) ∧ Aside0 (Below w.heap.size w wc))
                            case first =>
                              have H := HC21.out
                              clear HC21
                              by_cases c22 : x10_3 < (wrap64 (2 * (wrap64 ((l0.length : Int) / 2))))
                              · rw [if_pos c22] at H
                                have c22b0 : decide (x10_3 < (wrap64 (2 * (wrap64 ((l0.length : Int) / 2))))) = true := decide_eq_true c22
                                (try simp only [hji3] at c22b0)
                                (try simp only [hji6] at c22b0)
                                clear c22
                                (first | rw [c22b0] | (simp only [i64_w, i32_w]; rw [c22b0]) | skip)
                                by_cases c23 : 0 ≤ x10_3
                                · rw [if_pos c23] at H
                                  have c23b0 : decide (0 ≤ x10_3) = true := decide_eq_true c23
                                  clear c23
                                  by_cases c24 : x10_3 < (l0.length : Int)
                                  · rw [if_pos c24] at H
                                    have c24b0 : decide (x10_3 < (l0.length : Int)) = true := decide_eq_true c24
                                    clear c24
                                    have H' := Aside0.mk H
                                    clear H
                                    have p283 : 0 ≤ (x10_3 : Int) := of_decide_eq_true (by first | (with_reducible assumption) | assumption)
                                    have q283 : x10_3 < (l0.length : Int) := of_decide_eq_true (by first | (with_reducible assumption) | assumption)
                                    obtain ⟨ad283, e283, hx283_0⟩ := Kd.at_int HR0.out x10_3 p283 q283
                                    cases e283
                                    replace hx283_0 := (HB.out.cell (World.block_lt_of_cell? w _ hx283_0)).trans hx283_0
                                    replace p283 := eq_true p283
                                    replace q283 := eq_true q283
                                    go_wp2
                                    go_meet
                                    case rel => exact ⟨_, (rd l0 x10_3), (by first | rfl | (simp; done) | (simp [*]; done)), H', ⟨by have := HK1.out; have := HJ13.out; have := HK3.out; first | omega | exact Nat.le_refl _⟩, ⟨by (try simp only [hl7_3]); (with_reducible repeat (first | apply Kd.R_alloc | apply Kd.R_drewN | apply Kd.R_drew)); exact HO_7.out⟩, ⟨by (try simp only [hl7_3]); (with_reducible repeat (first | apply Kd.R_alloc | apply Kd.R_drewN | apply Kd.R_drew)); exact HO_8.out⟩, ⟨by repeat (first | (with_reducible first | exact HB.out | apply below_alloc | apply pw_below_drewN | apply below_drew1) | exact HB.out)⟩⟩
                                  · rw [if_neg c24] at H
                                    exact absurd H (by simp)
                                · rw [if_neg c23] at H
                                  exact absurd H (by simp)
                              · rw [if_neg c22] at H
                                have c22b0 : decide (x10_3 < (wrap64 (2 * (wrap64 ((l0.length : Int) / 2))))) = false := decide_eq_false c22
                                (try simp only [hji3] at c22b0)
                                (try simp only [hji6] at c22b0)
                                clear c22
                                (first | rw [c22b0] | (simp only [i64_w, i32_w]; rw [c22b0]) | skip)
                                obtain ⟨ji25, hji25⟩ : ∃ j_ : Int, (wrap64 (x10_3 - (wrap64 (2 * (wrap64 ((l0.length : Int) / 2)))))) = j_ := ⟨_, rfl⟩
                                replace H : (if 0 ≤ (ji25) then (if (ji25) < (l1.length : Int) then (pomaderef07_product.j3 k3 l0 l1 (wrap64 ((l0.length : Int) / 2)) x7_3 x8_1 x9_1 (wrap64 ((wrap64 (2 * (wrap64 ((l0.length : Int) / 2)))) + (rd l1 (ji25))))) else (none)) else (none)) = some (r1, r2) := by first | (rw [hji25] at H; exact H) | (simp only [hji25] at H ⊢; exact H)
                                have hji25w : (IntKind.i64.wrap (x10_3 - (wrap64 (2 * (wrap64 ((l0.length : Int) / 2)))))) = ji25 := (i64_w _).trans hji25
                                (try simp only [hji3] at hji25)
                                (try simp only [hji3] at hji25w)
                                (try simp only [hji6] at hji25)
                                (try simp only [hji6] at hji25w)
                                by_cases c26 : 0 ≤ (ji25)
                                · rw [if_pos c26] at H
                                  have c26b0 : decide (0 ≤ (ji25)) = true := decide_eq_true c26
                                  clear c26
                                  by_cases c27 : (ji25) < (l1.length : Int)
                                  · rw [if_pos c27] at H
                                    have c27b0 : decide ((ji25) < (l1.length : Int)) = true := decide_eq_true c27
                                    clear c27
                                    have H' := Aside0.mk H
                                    clear H
                                    have p284 : 0 ≤ ((ji25) : Int) := of_decide_eq_true (by first | (with_reducible assumption) | assumption)
                                    have q284 : (ji25) < (l1.length : Int) := of_decide_eq_true (by first | (with_reducible assumption) | assumption)
                                    obtain ⟨ad284, e284, hx284_0⟩ := Kd.at_int HR1.out (ji25) p284 q284
                                    cases e284
                                    replace hx284_0 := (HB.out.cell (World.block_lt_of_cell? w _ hx284_0)).trans hx284_0
                                    replace p284 := eq_true p284
                                    replace q284 := eq_true q284
                                    go_wp2
                                    go_meet
                                    case rel => exact ⟨_, (wrap64 ((wrap64 (2 * (wrap64 ((l0.length : Int) / 2)))) + (rd l1 (ji25)))), (by first | rfl | (simp; done) | (simp only [hji3, hji6]; done) | (simp only [← hji25] <;> (first | rfl | simp)) | (simp [*]; done)), H', ⟨by have := HK1.out; have := HJ13.out; have := HK3.out; first | omega | exact Nat.le_refl _⟩, ⟨by (try simp only [hl7_3]); (with_reducible repeat (first | apply Kd.R_alloc | apply Kd.R_drewN | apply Kd.R_drew)); exact HO_7.out⟩, ⟨by (try simp only [hl7_3]); (with_reducible repeat (first | apply Kd.R_alloc | apply Kd.R_drewN | apply Kd.R_drew)); exact HO_8.out⟩, ⟨by repeat (first | (with_reducible first | exact HB.out | apply below_alloc | apply pw_below_drewN | apply below_drew1) | exact HB.out)⟩⟩
                                  · rw [if_neg c27] at H
                                    exact absurd H (by simp)
                                · rw [if_neg c26] at H
                                  exact absurd H (by simp)
                            case rest =>
                              clear HC21
                              try clear c1
                              try clear p1
                              try clear q1
                              try clear hx1
                              try clear c2
                              try clear p2
                              try clear q2
                              try clear hx2
                              try clear c4
                              try clear c4b0
                              try clear c4b1
                              try clear c5
                              try clear c5b0
                              try clear c5b1
                              try clear p6
                              try clear c7
                              try clear c7b0
                              try clear c7b1
                              try clear c8
                              try clear c8b0
                              try clear c8b1
                              try clear c13
                              try clear c13b0
                              try clear c15
                              try clear c15b0
                              try clear c16
                              try clear c16b0
                              try clear c17
                              try clear c17b0
                              try clear p18
                              try clear q18
                              try clear hx18
                              try clear hf18
                              try clear c22
                              try clear c22b0
                              try clear c23
                              try clear c23b0
                              try clear c24
                              try clear c24b0
                              try clear c26
                              try clear c26b0
                              try clear c27
                              try clear c27b0
                              try clear hx18_0
                              try clear hx283_0
                              try clear hx284_0
                              try clear p1
                              try clear p18
                              try clear p2
                              try clear p283
                              try clear p284
                              try clear p6
                              try clear q1
                              try clear q18
                              try clear q283
                              try clear q284
                              obtain ⟨kq, x10_20, rfl, HA, HJ20, HO_7, HO_8, HB⟩ := hcut
                              cases kq with
                              | zero => exact absurd HA.out (by simp [pomaderef07_product.j3])
                              | succ kj20 =>
                                have H := HA.out
                                clear HA
                                simp only [pomaderef07_product.j3] at H
                                by_cases c28 : 0 ≤ x10_20
                                · rw [if_pos c28] at H
                                  have c28b0 : decide (0 ≤ x10_20) = true := decide_eq_true c28
                                  clear c28
                                  by_cases c29 : x10_20 < (x7_3.length : Int)
                                  · rw [if_pos c29] at H
                                    have c29b0 : decide (x10_20 < (x7_3.length : Int)) = true := decide_eq_true c29
                                    clear c29
                                    obtain ⟨y285, hy285⟩ : ∃ y_ : List Bool, y_ = (x7_3.set (x10_20 : Int).toNat true) := ⟨_, rfl⟩
                                    replace H : (if x10_20 < (wrap64 ((l0.length : Int) / 2)) then (pomaderef07_product.j4 kj20 l0 l1 (wrap64 ((l0.length : Int) / 2)) y285 x8_1 x9_1 x10_20 true) else (pomaderef07_product.j4 kj20 l0 l1 (wrap64 ((l0.length : Int) / 2)) y285 x8_1 x9_1 x10_20 (decide (x10_20 ≥ (wrap64 (3 * (wrap64 ((l0.length : Int) / 2)))))))) = some (r1, r2) := by first | (rw [hy285]; with_reducible exact H) | (have H2_ := (Option.bind_some _ _).symm.trans H; rw [hy285]; with_reducible exact H2_) | (have H2_ := (Option.bind_some _ _).symm.trans H; with_reducible exact H2_) | with_reducible exact H | (rw [hy285]; exact H) | exact H
                                    have Ny285 := Aside0.mk hy285
                                    clear hy285
                                    have HC31 := Aside0.mk H
                                    clear H
                                    have p30 : 0 ≤ (x10_20 : Int) := of_decide_eq_true (by first | (with_reducible assumption) | assumption)
                                    have q30 : (x10_20 : Int) < ((x7_3.length : Int) : Int) := of_decide_eq_true (by first | (with_reducible assumption) | assumption)
                                    obtain ⟨hx30_0, hf30_0⟩ := Kd.R_celln false HO_7.out (x10_20 : Int) p30 q30
                                    replace p30 := eq_true p30
                                    replace q30 := eq_true q30
                                    have HP32 := Kd.R_putg HO_7.out (x10_20 : Int) true
                                    go_upto_region 15 with (first | ((with_reducible refine gate_store (t := 4) (p := 60) rfl ?_); refine store_event (t := 4) (p := 60) (v := ?vo_w33) (w1 := (wc.setCell ⟨go18, (x10_20 : Int).toNat, none⟩ (.bool true))) ?hg ?ho ?hn ?hr ?_; (case ho => rfl); (case hg => rfl); (case hn => rfl); (case hr => first | (go_simp; done) | (go_simp; rfl)); intro w33 hw; have hg : wc.grownBy w33 (some go18) := (by rw [hw]; exact HP32.2); have hp_ : Kd.R Kd.bool 4 w33 w.heap.size (fun _ => True) (.slice (some ⟨go18, 0, none⟩) x7_3.length co18) y285 := (by rw [hw, Ny285.out]; exact HP32.1); clear HP32; have n0_ := Aside0.mk (hp_); have n1_ := Aside0.mk (Kd.R_over' (v := (.slice (some ⟨go18, 0, none⟩) x7_3.length co18)) (by (with_reducible repeat (first | apply Kd.R_alloc | apply Kd.R_drewN | apply Kd.R_drew)); exact HO_8.out) (Kd.R_typed HO_7.out) (by decide) hg); have n2_ := Aside0.mk ((by rw [hw]; exact below_set (HB.out) GB18.out : Below w.heap.size w w33)); clear HO_7; clear HO_8; clear HB; have HO_7 := n0_; have HO_8 := n1_; have HB := n2_; clear n0_ n1_ n2_; clear hg hw hp_))
                                    (try simp only [Act.put, List.setIfInBounds_toArray, List.set_cons_zero, List.set_cons_succ])
                                    go_cut [69] (fun v69 wc => ∃ (kq : Nat) (x69_30 : Bool), v69 = .bool x69_30 ∧ Aside0 (pomaderef07_product.j4 kq l0 l1 (wrap64 ((l0.length : Int) / 2)) y285 x8_1 x9_1 x10_20 x69_30 = some (r1, r2)) ∧ Aside0 (kq ≤ kj20) ∧ Aside0 (Kd.R Kd.bool 4 wc w.heap.size (fun _ => True) (.slice (some ⟨go18, 0, none⟩) x7_3.length co18) y285) ∧ Aside0 (Kd.R (Kd.int .i64) 3 wc w.heap.size (fun _ => True) v280 x8_1) ∧ Aside0 (Below w.heap.size w wc))
                                    case first =>
                                      have H := HC31.out
                                      clear HC31
                                      by_cases c34 : x10_20 < (wrap64 ((l0.length : Int) / 2))
                                      · rw [if_pos c34] at H
                                        have c34b0 : decide (x10_20 < (wrap64 ((l0.length : Int) / 2))) = true := decide_eq_true c34
                                        (try simp only [hji3] at c34b0)
                                        (try simp only [hji6] at c34b0)
                                        (try simp only [hji25] at c34b0)
                                        clear c34
                                        (first | rw [c34b0] | (simp only [i64_w, i32_w]; rw [c34b0]) | skip)
                                        have H' := Aside0.mk H
                                        clear H
                                        go_wp2
                                        go_meet
                                        case rel => exact ⟨_, (true), (by first | rfl | (simp; done) | (simp [*]; done)), H', ⟨by have := HK1.out; have := HJ13.out; have := HK3.out; have := HJ20.out; first | omega | exact Nat.le_refl _⟩, ⟨by (try simp only [hl7_3]); (with_reducible repeat (first | apply Kd.R_alloc | apply Kd.R_drewN | apply Kd.R_drew)); exact HO_7.out⟩, ⟨by (try simp only [hl7_3]); (with_reducible repeat (first | apply Kd.R_alloc | apply Kd.R_drewN | apply Kd.R_drew)); exact HO_8.out⟩, ⟨by repeat (first | (with_reducible first | exact HB.out | apply below_alloc | apply pw_below_drewN | apply below_drew1) | exact HB.out)⟩⟩
                                      · rw [if_neg c34] at H
                                        have c34b0 : decide (x10_20 < (wrap64 ((l0.length : Int) / 2))) = false := decide_eq_false c34
                                        (try simp only [hji3] at c34b0)
                                        (try simp only [hji6] at c34b0)
                                        (try simp only [hji25] at c34b0)
                                        clear c34
                                        (first | rw [c34b0] | (simp only [i64_w, i32_w]; rw [c34b0]) | skip)
                                        have H' := Aside0.mk H
                                        clear H
                                        go_wp2
                                        go_meet
                                        case rel => exact ⟨_, (decide (x10_20 ≥ (wrap64 (3 * (wrap64 ((l0.length : Int) / 2)))))), (by first | rfl | (simp; done) | (simp [*]; done)), H', ⟨by have := HK1.out; have := HJ13.out; have := HK3.out; have := HJ20.out; first | omega | exact Nat.le_refl _⟩, ⟨by (try simp only [hl7_3]); (with_reducible repeat (first | apply Kd.R_alloc | apply Kd.R_drewN | apply Kd.R_drew)); exact HO_7.out⟩, ⟨by (try simp only [hl7_3]); (with_reducible repeat (first | apply Kd.R_alloc | apply Kd.R_drewN | apply Kd.R_drew)); exact HO_8.out⟩, ⟨by repeat (first | (with_reducible first | exact HB.out | apply below_alloc | apply pw_below_drewN | apply below_drew1) | exact HB.out)⟩⟩
                                    case rest =>
                                      clear HC31
                                      try clear c1
                                      try clear p1
                                      try clear q1
                                      try clear hx1
                                      try clear c2
                                      try clear p2
                                      try clear q2
                                      try clear hx2
                                      try clear c3
                                      try clear p3
                                      try clear q3
                                      try clear hx3
                                      try clear hf3
                                      try clear c4
                                      try clear c4b0
                                      try clear c4b1
                                      try clear c5
                                      try clear c5b0
                                      try clear c5b1
                                      try clear p6
                                      try clear c7
                                      try clear c7b0
                                      try clear c7b1
                                      try clear c8
                                      try clear c8b0
                                      try clear c8b1
                                      try clear c13
                                      try clear c13b0
                                      try clear c15
                                      try clear c15b0
                                      try clear c16
                                      try clear c16b0
                                      try clear c17
                                      try clear c17b0
                                      try clear p18
                                      try clear q18
                                      try clear hx18
                                      try clear hf18
                                      try clear c22
                                      try clear c22b0
                                      try clear c23
                                      try clear c23b0
                                      try clear c24
                                      try clear c24b0
                                      try clear c26
                                      try clear c26b0
                                      try clear c27
                                      try clear c27b0
                                      try clear c28
                                      try clear c28b0
                                      try clear p28
                                      try clear q28
                                      try clear hx28
                                      try clear c29
                                      try clear c29b0
                                      try clear p30
                                      try clear q30
                                      try clear hx30
                                      try clear hf30
                                      try clear c34
                                      try clear c34b0
                                      try clear hx18_0
                                      try clear hx283_0
                                      try clear hx284_0
                                      try clear hx30_0
                                      try clear p1
                                      try clear p18
                                      try clear p2
                                      try clear p283
                                      try clear p284
                                      try clear p30
                                      try clear p6
                                      try clear q1
                                      try clear q18
                                      try clear q2
                                      try clear q283
                                      try clear q284
                                      try clear q30
                                      obtain ⟨kq, x69_30, rfl, HA, HJ30, HO_7, HO_8, HB⟩ := hcut
                                      have hl7_30 := (Kd.R_reads' HO_7.out).1
                                      rw [hl7_30] at HO_7
                                      (try simp only [hl7_30])
                                      (try simp only [hl7_30] at HO_8)
                                      cases kq with
                                      | zero => exact absurd HA.out (by simp [pomaderef07_product.j4])
                                      | succ kj30 =>
                                        have H := HA.out
                                        clear HA
                                        simp only [pomaderef07_product.j4] at H
                                        by_cases c35 : x69_30 = true
                                        · subst c35
                                          have H1 : (if x10_20 ≥ (wrap64 (3 * (wrap64 ((l0.length : Int) / 2)))) then (if 0 ≤ x9_1 then (if x9_1 < (x8_1.length : Int) then (pomaderef07_product.l0 kj30 l0 l1 (wrap64 ((l0.length : Int) / 2)) y285 (x8_1.set (x9_1 : Int).toNat (wrap64 (x10_20 - (wrap64 (2 * (wrap64 ((l0.length : Int) / 2))))))) (wrap64 (x9_1 + 1))) else (none)) else (none)) else (if 0 ≤ x9_1 then (if x9_1 < (x8_1.length : Int) then (pomaderef07_product.l0 kj30 l0 l1 (wrap64 ((l0.length : Int) / 2)) y285 (x8_1.set (x9_1 : Int).toNat x10_20) (wrap64 (x9_1 + 1))) else (none)) else (none))) = some (r1, r2) := by rw [if_pos rfl] at H; exact H
                                          clear H
                                          have H := H1
                                          clear H1
                                          by_cases c36 : x10_20 ≥ (wrap64 (3 * (wrap64 ((l0.length : Int) / 2))))
                                          · rw [if_pos c36] at H
                                            have c36b0 : decide ((wrap64 (3 * (wrap64 ((l0.length : Int) / 2)))) ≤ x10_20) = true := decide_eq_true c36
                                            (try simp only [hji3] at c36b0)
                                            (try simp only [hji6] at c36b0)
                                            (try simp only [hji25] at c36b0)
                                            clear c36
                                            by_cases c37 : 0 ≤ x9_1
                                            · rw [if_pos c37] at H
                                              have c37b0 : decide (0 ≤ x9_1) = true := decide_eq_true c37
                                              clear c37
                                              by_cases c38 : x9_1 < (x8_1.length : Int)
                                              · rw [if_pos c38] at H
                                                have c38b0 : decide (x9_1 < (x8_1.length : Int)) = true := decide_eq_true c38
                                                clear c38
                                                obtain ⟨y286, hy286⟩ : ∃ y_ : List Int, y_ = (x8_1.set (x9_1 : Int).toNat (wrap64 (x10_20 - (wrap64 (2 * (wrap64 ((l0.length : Int) / 2))))))) := ⟨_, rfl⟩
                                                replace H : (pomaderef07_product.l0 kj30 l0 l1 (wrap64 ((l0.length : Int) / 2)) y285 y286 (wrap64 (x9_1 + 1))) = some (r1, r2) := by first | (rw [hy286]; with_reducible exact H) | (have H2_ := (Option.bind_some _ _).symm.trans H; rw [hy286]; with_reducible exact H2_) | (have H2_ := (Option.bind_some _ _).symm.trans H; with_reducible exact H2_) | with_reducible exact H | (rw [hy286]; exact H) | exact H
                                                have Ny286 := Aside0.mk hy286
                                                clear hy286
                                                have H' := Aside0.mk H
                                                clear H
                                                have p39 : 0 ≤ (x9_1 : Int) := of_decide_eq_true (by first | (with_reducible assumption) | assumption)
                                                have q39 : (x9_1 : Int) < ((x8_1.length : Int) : Int) := of_decide_eq_true (by first | (with_reducible assumption) | assumption)
                                                obtain ⟨go39, co39, eo39, gb39, gl39, cl39, HG39⟩ := Kd.R_form HO_8.out (by omega)
                                                (first | cases eo39 | (injection eo39 with ea_ en_ ec_; (first | subst ea_ | (injection ea_ with ea_; subst ea_)); subst ec_; clear en_))
                                                (try simp only [add_plain] at *)
                                                have GB39 := Aside0.mk gb39
                                                have GG39 := Aside0.mk HG39
                                                clear gb39 gl39 HG39
                                                obtain ⟨hx39_0, hf39_0⟩ := Kd.R_celln 0 HO_8.out (x9_1 : Int) p39 q39
                                                replace p39 := eq_true p39
                                                replace q39 := eq_true q39
                                                have HP40 := Kd.R_putg HO_8.out (x9_1 : Int) (wrap64 (x10_20 - (wrap64 (2 * (wrap64 ((l0.length : Int) / 2))))))
                                                go_wp2_with (first | ((with_reducible refine gate_store (t := 3) (p := 94) rfl ?_); refine store_event (t := 3) (p := 94) (v := ?vo_w41) (w1 := (wc.setCell ⟨go39, (x9_1 : Int).toNat, none⟩ (.int .i64 (wrap64 (x10_20 - (wrap64 (2 * (wrap64 ((l0.length : Int) / 2))))))))) ?hg ?ho ?hn ?hr ?_; (case ho => rfl); (case hg => rfl); (case hn => rfl); (case hr => first | (go_simp; done) | (go_simp; rfl)); intro w41 hw; have hg : wc.grownBy w41 (some go39) := (by rw [hw]; exact HP40.2); have hp_ : Kd.R (Kd.int .i64) 3 w41 w.heap.size (fun _ => True) (.slice (some ⟨go39, 0, none⟩) x8_1.length co39) y286 := (by rw [hw, Ny286.out]; exact HP40.1); clear HP40; have n0_ := Aside0.mk (Kd.R_over' (v := (.slice (some ⟨go39, 0, none⟩) x8_1.length co39)) (by (with_reducible repeat (first | apply Kd.R_alloc | apply Kd.R_drewN | apply Kd.R_drew)); exact HO_7.out) (Kd.R_typed HO_8.out) (by decide) hg); have n1_ := Aside0.mk (hp_); have n2_ := Aside0.mk ((by rw [hw]; exact below_set (HB.out) GB39.out : Below w.heap.size w w41)); clear HO_7; clear HO_8; clear HB; have HO_7 := n0_; have HO_8 := n1_; have HB := n2_; clear n0_ n1_ n2_; clear hg hw hp_))
                                                (try simp only [← hl7_3, ← hl7_30])
                                                go_roundg kj30
                                                case measure => have := HK1.out; have := HJ13.out; have := HK3.out; have := HJ20.out; have := HJ30.out; omega
                                                case rel => exact ⟨(y285), (y286), (wrap64 (x9_1 + 1)), (by first | rfl | (simp; done) | (simp [*]; done)), H', ⟨by have := HK1.out; have := HJ13.out; have := HK3.out; have := HJ20.out; have := HJ30.out; omega⟩, ⟨by (try simp only [hl7_3]); (try simp only [hl7_30]); (with_reducible repeat (first | apply Kd.R_alloc | apply Kd.R_drewN | apply Kd.R_drew)); exact HO_7.out⟩, ⟨by (try simp only [hl7_3]); (try simp only [hl7_30]); (with_reducible repeat (first | apply Kd.R_alloc | apply Kd.R_drewN | apply Kd.R_drew)); exact HO_8.out⟩, ⟨by repeat (first | (with_reducible first | exact HB.out | apply below_alloc | apply pw_below_drewN | apply below_drew1) | exact HB.out)⟩⟩
                                              · rw [if_neg c38] at H
                                                exact absurd H (by simp)
                                            · rw [if_neg c37] at H
                                              exact absurd H (by simp)
                                          · rw [if_neg c36] at H
                                            have c36b0 : decide ((wrap64 (3 * (wrap64 ((l0.length : Int) / 2)))) ≤ x10_20) = false := decide_eq_false c36
                                            (try simp only [hji3] at c36b0)
                                            (try simp only [hji6] at c36b0)
                                            (try simp only [hji25] at c36b0)
                                            clear c36
                                            by_cases c42 : 0 ≤ x9_1
                                            · rw [if_pos c42] at H
                                              have c42b0 : decide (0 ≤ x9_1) = true := decide_eq_true c42
                                              clear c42
                                              by_cases c43 : x9_1 < (x8_1.length : Int)
                                              · rw [if_pos c43] at H
                                                have c43b0 : decide (x9_1 < (x8_1.length : Int)) = true := decide_eq_true c43
                                                clear c43
                                                obtain ⟨y287, hy287⟩ : ∃ y_ : List Int, y_ = (x8_1.set (x9_1 : Int).toNat x10_20) := ⟨_, rfl⟩
                                                replace H : (pomaderef07_product.l0 kj30 l0 l1 (wrap64 ((l0.length : Int) / 2)) y285 y287 (wrap64 (x9_1 + 1))) = some (r1, r2) := by first | (rw [hy287]; with_reducible exact H) | (have H2_ := (Option.bind_some _ _).symm.trans H; rw [hy287]; with_reducible exact H2_) | (have H2_ := (Option.bind_some _ _).symm.trans H; with_reducible exact H2_) | with_reducible exact H | (rw [hy287]; exact H) | exact H
                                                have Ny287 := Aside0.mk hy287
                                                clear hy287
                                                have H' := Aside0.mk H
                                                clear H
                                                have p44 : 0 ≤ (x9_1 : Int) := of_decide_eq_true (by first | (with_reducible assumption) | assumption)
                                                have q44 : (x9_1 : Int) < ((x8_1.length : Int) : Int) := of_decide_eq_true (by first | (with_reducible assumption) | assumption)
                                                obtain ⟨go44, co44, eo44, gb44, gl44, cl44, HG44⟩ := Kd.R_form HO_8.out (by omega)
                                                (first | cases eo44 | (injection eo44 with ea_ en_ ec_; (first | subst ea_ | (injection ea_ with ea_; subst ea_)); subst ec_; clear en_))
                                                (try simp only [add_plain] at *)
                                                have GB44 := Aside0.mk gb44
                                                have GG44 := Aside0.mk HG44
                                                clear gb44 gl44 HG44
                                                obtain ⟨hx44_0, hf44_0⟩ := Kd.R_celln 0 HO_8.out (x9_1 : Int) p44 q44
                                                replace p44 := eq_true p44
                                                replace q44 := eq_true q44
                                                have HP45 := Kd.R_putg HO_8.out (x9_1 : Int) x10_20
                                                go_wp2_with (first | ((with_reducible refine gate_store (t := 3) (p := 94) rfl ?_); refine store_event (t := 3) (p := 94) (v := ?vo_w46) (w1 := (wc.setCell ⟨go44, (x9_1 : Int).toNat, none⟩ (.int .i64 x10_20))) ?hg ?ho ?hn ?hr ?_; (case ho => rfl); (case hg => rfl); (case hn => rfl); (case hr => first | (go_simp; done) | (go_simp; rfl)); intro w46 hw; have hg : wc.grownBy w46 (some go44) := (by rw [hw]; exact HP45.2); have hp_ : Kd.R (Kd.int .i64) 3 w46 w.heap.size (fun _ => True) (.slice (some ⟨go44, 0, none⟩) x8_1.length co44) y287 := (by rw [hw, Ny287.out]; exact HP45.1); clear HP45; have n0_ := Aside0.mk (Kd.R_over' (v := (.slice (some ⟨go44, 0, none⟩) x8_1.length co44)) (by (with_reducible repeat (first | apply Kd.R_alloc | apply Kd.R_drewN | apply Kd.R_drew)); exact HO_7.out) (Kd.R_typed HO_8.out) (by decide) hg); have n1_ := Aside0.mk (hp_); have n2_ := Aside0.mk ((by rw [hw]; exact below_set (HB.out) GB44.out : Below w.heap.size w w46)); clear HO_7; clear HO_8; clear HB; have HO_7 := n0_; have HO_8 := n1_; have HB := n2_; clear n0_ n1_ n2_; clear hg hw hp_))
                                                (try simp only [← hl7_3, ← hl7_30])
                                                go_roundg kj30
                                                case measure => have := HK1.out; have := HJ13.out; have := HK3.out; have := HJ20.out; have := HJ30.out; omega
                                                case rel => exact ⟨(y285), (y287), (wrap64 (x9_1 + 1)), (by first | rfl | (simp; done) | (simp [*]; done)), H', ⟨by have := HK1.out; have := HJ13.out; have := HK3.out; have := HJ20.out; have := HJ30.out; omega⟩, ⟨by (try simp only [hl7_3]); (try simp only [hl7_30]); (with_reducible repeat (first | apply Kd.R_alloc | apply Kd.R_drewN | apply Kd.R_drew)); exact HO_7.out⟩, ⟨by (try simp only [hl7_3]); (try simp only [hl7_30]); (with_reducible repeat (first | apply Kd.R_alloc | apply Kd.R_drewN | apply Kd.R_drew)); exact HO_8.out⟩, ⟨by repeat (first | (with_reducible first | exact HB.out | apply below_alloc | apply pw_below_drewN | apply below_drew1) | exact HB.out)⟩⟩
                                              · rw [if_neg c43] at H
                                                exact absurd H (by simp)
                                            · rw [if_neg c42] at H
                                              exact absurd H (by simp)
                                        · replace c35 := Bool.eq_false_iff.mpr c35
                                          subst c35
                                          have H1 : (if x10_20 < (wrap64 (2 * (wrap64 ((l0.length : Int) / 2)))) then (if 0 ≤ (wrap64 (x10_20 + (wrap64 ((l0.length : Int) / 2)))) then (if (wrap64 (x10_20 + (wrap64 ((l0.length : Int) / 2)))) < (y285.length : Int) then (pomaderef07_product.l1 kj30 l0 l1 (wrap64 ((l0.length : Int) / 2)) (y285.set ((wrap64 (x10_20 + (wrap64 ((l0.length : Int) / 2)))) : Int).toNat true) x8_1 x9_1 (wrap64 (x10_20 + (wrap64 ((l0.length : Int) / 2))))) else (none)) else (none)) else (if 0 ≤ (wrap64 (x10_20 - (wrap64 ((l0.length : Int) / 2)))) then (if (wrap64 (x10_20 - (wrap64 ((l0.length : Int) / 2)))) < (y285.length : Int) then (pomaderef07_product.l1 kj30 l0 l1 (wrap64 ((l0.length : Int) / 2)) (y285.set ((wrap64 (x10_20 - (wrap64 ((l0.length : Int) / 2)))) : Int).toNat true) x8_1 x9_1 (wrap64 (x10_20 - (wrap64 ((l0.length : Int) / 2))))) else (none)) else (none))) = some (r1, r2) := by rw [if_neg (show ¬ (false = true) by decide)] at H; exact H
                                          clear H
                                          have H := H1
                                          clear H1
                                          by_cases c47 : x10_20 < (wrap64 (2 * (wrap64 ((l0.length : Int) / 2))))
                                          · rw [if_pos c47] at H
                                            have c47b0 : decide (x10_20 < (wrap64 (2 * (wrap64 ((l0.length : Int) / 2))))) = true := decide_eq_true c47
                                            (try simp only [hji3] at c47b0)
                                            (try simp only [hji6] at c47b0)
                                            (try simp only [hji25] at c47b0)
                                            clear c47
                                            obtain ⟨ji48, hji48⟩ : ∃ j_ : Int, (wrap64 (x10_20 + (wrap64 ((l0.length : Int) / 2)))) = j_ := ⟨_, rfl⟩
                                            replace H : (if 0 ≤ (ji48) then (if (ji48) < (y285.length : Int) then (pomaderef07_product.l1 kj30 l0 l1 (wrap64 ((l0.length : Int) / 2)) (y285.set ((ji48) : Int).toNat true) x8_1 x9_1 ji48) else (none)) else (none)) = some (r1, r2) := by first | (rw [hji48] at H; exact H) | (simp only [hji48] at H ⊢; exact H)
                                            have hji48w : (IntKind.i64.wrap (x10_20 + (wrap64 ((l0.length : Int) / 2)))) = ji48 := (i64_w _).trans hji48
                                            (try simp only [hji3] at hji48)
                                            (try simp only [hji3] at hji48w)
                                            (try simp only [hji6] at hji48)
                                            (try simp only [hji6] at hji48w)
                                            (try simp only [hji25] at hji48)
                                            (try simp only [hji25] at hji48w)
                                            by_cases c49 : 0 ≤ (ji48)
                                            · rw [if_pos c49] at H
                                              have c49b0 : decide (0 ≤ (ji48)) = true := decide_eq_true c49
                                              clear c49
                                              by_cases c50 : (ji48) < (y285.length : Int)
                                              · rw [if_pos c50] at H
                                                have c50b0 : decide ((ji48) < (y285.length : Int)) = true := decide_eq_true c50
                                                clear c50
                                                obtain ⟨y288, hy288⟩ : ∃ y_ : List Bool, y_ = (y285.set ((ji48) : Int).toNat true) := ⟨_, rfl⟩
                                                replace H : (pomaderef07_product.l1 kj30 l0 l1 (wrap64 ((l0.length : Int) / 2)) y288 x8_1 x9_1 ji48) = some (r1, r2) := by first | (rw [hy288]; with_reducible exact H) | (have H2_ := (Option.bind_some _ _).symm.trans H; rw [hy288]; with_reducible exact H2_) | (have H2_ := (Option.bind_some _ _).symm.trans H; with_reducible exact H2_) | with_reducible exact H | (rw [hy288]; exact H) | exact H
                                                have Ny288 := Aside0.mk hy288
                                                clear hy288
                                                have H' := Aside0.mk H
                                                clear H
                                                have p51 : 0 ≤ ((ji48) : Int) := of_decide_eq_true (by first | (with_reducible assumption) | assumption)
                                                have q51 : ((ji48) : Int) < ((y285.length : Int) : Int) := of_decide_eq_true (by first | (with_reducible assumption) | assumption)
                                                obtain ⟨hx51_0, hf51_0⟩ := Kd.R_celln false HO_7.out ((ji48) : Int) p51 q51
                                                replace p51 := eq_true p51
                                                replace q51 := eq_true q51
                                                have HP52 := Kd.R_putg HO_7.out ((ji48) : Int) true
                                                go_wp2_with (first | ((with_reducible refine gate_store (t := 4) (p := 82) rfl ?_); refine store_event (t := 4) (p := 82) (v := ?vo_w53) (w1 := (wc.setCell ⟨go18, ((ji48) : Int).toNat, none⟩ (.bool true))) ?hg ?ho ?hn ?hr ?_; (case ho => rfl); (case hg => rfl); (case hn => rfl); (case hr => first | (go_simp; done) | (go_simp; rfl)); intro w53 hw; have hg : wc.grownBy w53 (some go18) := (by rw [hw]; exact HP52.2); have hp_ : Kd.R Kd.bool 4 w53 w.heap.size (fun _ => True) (.slice (some ⟨go18, 0, none⟩) y285.length co18) y288 := (by rw [hw, Ny288.out]; exact HP52.1); clear HP52; have n0_ := Aside0.mk (hp_); have n1_ := Aside0.mk (Kd.R_over' (v := (.slice (some ⟨go18, 0, none⟩) y285.length co18)) (by (with_reducible repeat (first | apply Kd.R_alloc | apply Kd.R_drewN | apply Kd.R_drew)); exact HO_8.out) (Kd.R_typed HO_7.out) (by decide) hg); have n2_ := Aside0.mk ((by rw [hw]; exact below_set (HB.out) GB18.out : Below w.heap.size w w53)); clear HO_7; clear HO_8; clear HB; have HO_7 := n0_; have HO_8 := n1_; have HB := n2_; clear n0_ n1_ n2_; clear hg hw hp_))
                                                (try simp only [← hl7_3, ← hl7_30])
                                                go_roundg kj30
                                                case measure => have := HK1.out; have := HJ13.out; have := HK3.out; have := HJ20.out; have := HJ30.out; omega
                                                case rel => exact ⟨(y288), (ji48), (by first | rfl | (simp; done) | (simp only [hji3, hji6]; done) | (simp only [← hji48] <;> (first | rfl | simp)) | (simp [*]; done)), H', ⟨by have := HK1.out; have := HJ13.out; have := HK3.out; have := HJ20.out; have := HJ30.out; omega⟩, ⟨by (try simp only [hl7_3]); (try simp only [hl7_30]); (with_reducible repeat (first | apply Kd.R_alloc | apply Kd.R_drewN | apply Kd.R_drew)); exact HO_7.out⟩, ⟨by (try simp only [hl7_3]); (try simp only [hl7_30]); (with_reducible repeat (first | apply Kd.R_alloc | apply Kd.R_drewN | apply Kd.R_drew)); exact HO_8.out⟩, ⟨by repeat (first | (with_reducible first | exact HB.out | apply below_alloc | apply pw_below_drewN | apply below_drew1) | exact HB.out)⟩⟩
                                              · rw [if_neg c50] at H
                                                exact absurd H (by simp)
                                            · rw [if_neg c49] at H
                                              exact absurd H (by simp)
                                          · rw [if_neg c47] at H
                                            have c47b0 : decide (x10_20 < (wrap64 (2 * (wrap64 ((l0.length : Int) / 2))))) = false := decide_eq_false c47
                                            (try simp only [hji3] at c47b0)
                                            (try simp only [hji6] at c47b0)
                                            (try simp only [hji25] at c47b0)
                                            (try simp only [hji48] at c47b0)
                                            clear c47
                                            obtain ⟨ji54, hji54⟩ : ∃ j_ : Int, (wrap64 (x10_20 - (wrap64 ((l0.length : Int) / 2)))) = j_ := ⟨_, rfl⟩
                                            replace H : (if 0 ≤ (ji54) then (if (ji54) < (y285.length : Int) then (pomaderef07_product.l1 kj30 l0 l1 (wrap64 ((l0.length : Int) / 2)) (y285.set ((ji54) : Int).toNat true) x8_1 x9_1 ji54) else (none)) else (none)) = some (r1, r2) := by first | (rw [hji54] at H; exact H) | (simp only [hji54] at H ⊢; exact H)
                                            have hji54w : (IntKind.i64.wrap (x10_20 - (wrap64 ((l0.length : Int) / 2)))) = ji54 := (i64_w _).trans hji54
                                            (try simp only [hji3] at hji54)
                                            (try simp only [hji3] at hji54w)
                                            (try simp only [hji6] at hji54)
                                            (try simp only [hji6] at hji54w)
                                            (try simp only [hji25] at hji54)
                                            (try simp only [hji25] at hji54w)
                                            (try simp only [hji48] at hji54)
                                            (try simp only [hji48] at hji54w)
                                            by_cases c55 : 0 ≤ (ji54)
                                            · rw [if_pos c55] at H
                                              have c55b0 : decide (0 ≤ (ji54)) = true := decide_eq_true c55
                                              clear c55
                                              by_cases c56 : (ji54) < (y285.length : Int)
                                              · rw [if_pos c56] at H
                                                have c56b0 : decide ((ji54) < (y285.length : Int)) = true := decide_eq_true c56
                                                clear c56
                                                obtain ⟨y289, hy289⟩ : ∃ y_ : List Bool, y_ = (y285.set ((ji54) : Int).toNat true) := ⟨_, rfl⟩
                                                replace H : (pomaderef07_product.l1 kj30 l0 l1 (wrap64 ((l0.length : Int) / 2)) y289 x8_1 x9_1 ji54) = some (r1, r2) := by first | (rw [hy289]; with_reducible exact H) | (have H2_ := (Option.bind_some _ _).symm.trans H; rw [hy289]; with_reducible exact H2_) | (have H2_ := (Option.bind_some _ _).symm.trans H; with_reducible exact H2_) | with_reducible exact H | (rw [hy289]; exact H) | exact H
                                                have Ny289 := Aside0.mk hy289
                                                clear hy289
                                                have H' := Aside0.mk H
                                                clear H
                                                have p57 : 0 ≤ ((ji54) : Int) := of_decide_eq_true (by first | (with_reducible assumption) | assumption)
                                                have q57 : ((ji54) : Int) < ((y285.length : Int) : Int) := of_decide_eq_true (by first | (with_reducible assumption) | assumption)
                                                obtain ⟨hx57_0, hf57_0⟩ := Kd.R_celln false HO_7.out ((ji54) : Int) p57 q57
                                                replace p57 := eq_true p57
                                                replace q57 := eq_true q57
                                                have HP58 := Kd.R_putg HO_7.out ((ji54) : Int) true
                                                go_wp2_with (first | ((with_reducible refine gate_store (t := 4) (p := 82) rfl ?_); refine store_event (t := 4) (p := 82) (v := ?vo_w59) (w1 := (wc.setCell ⟨go18, ((ji54) : Int).toNat, none⟩ (.bool true))) ?hg ?ho ?hn ?hr ?_; (case ho => rfl); (case hg => rfl); (case hn => rfl); (case hr => first | (go_simp; done) | (go_simp; rfl)); intro w59 hw; have hg : wc.grownBy w59 (some go18) := (by rw [hw]; exact HP58.2); have hp_ : Kd.R Kd.bool 4 w59 w.heap.size (fun _ => True) (.slice (some ⟨go18, 0, none⟩) y285.length co18) y289 := (by rw [hw, Ny289.out]; exact HP58.1); clear HP58; have n0_ := Aside0.mk (hp_); have n1_ := Aside0.mk (Kd.R_over' (v := (.slice (some ⟨go18, 0, none⟩) y285.length co18)) (by (with_reducible repeat (first | apply Kd.R_alloc | apply Kd.R_drewN | apply Kd.R_drew)); exact HO_8.out) (Kd.R_typed HO_7.out) (by decide) hg); have n2_ := Aside0.mk ((by rw [hw]; exact below_set (HB.out) GB18.out : Below w.heap.size w w59)); clear HO_7; clear HO_8; clear HB; have HO_7 := n0_; have HO_8 := n1_; have HB := n2_; clear n0_ n1_ n2_; clear hg hw hp_))
                                                (try simp only [← hl7_3, ← hl7_30])
                                                go_roundg kj30
                                                case measure => have := HK1.out; have := HJ13.out; have := HK3.out; have := HJ20.out; have := HJ30.out; omega
                                                case rel => exact ⟨(y289), (ji54), (by first | rfl | (simp; done) | (simp only [hji3, hji6]; done) | (simp only [← hji54] <;> (first | rfl | simp)) | (simp [*]; done)), H', ⟨by have := HK1.out; have := HJ13.out; have := HK3.out; have := HJ20.out; have := HJ30.out; omega⟩, ⟨by (try simp only [hl7_3]); (try simp only [hl7_30]); (with_reducible repeat (first | apply Kd.R_alloc | apply Kd.R_drewN | apply Kd.R_drew)); exact HO_7.out⟩, ⟨by (try simp only [hl7_3]); (try simp only [hl7_30]); (with_reducible repeat (first | apply Kd.R_alloc | apply Kd.R_drewN | apply Kd.R_drew)); exact HO_8.out⟩, ⟨by repeat (first | (with_reducible first | exact HB.out | apply below_alloc | apply pw_below_drewN | apply below_drew1) | exact HB.out)⟩⟩
                                              · rw [if_neg c56] at H
                                                exact absurd H (by simp)
                                            · rw [if_neg c55] at H
                                              exact absurd H (by simp)
                                  · rw [if_neg c29] at H
                                    exact absurd H (by simp)
                                · rw [if_neg c28] at H
                                  exact absurd H (by simp)
                      · rw [if_neg c17] at H
                        exact absurd H (by simp)
                    · rw [if_neg c16] at H
                      exact absurd H (by simp)
              · rw [if_neg c13] at H
                have c13b0 : decide (x9_1 < (wrap64 (2 * (wrap64 ((l0.length : Int) / 2))))) = false := decide_eq_false c13
                (try simp only [hji3] at c13b0)
                (try simp only [hji6] at c13b0)
                (try simp only [hji25] at c13b0)
                (try simp only [hji48] at c13b0)
                (try simp only [hji54] at c13b0)
                clear c13
                have H' := Aside0.mk H
                clear H
                go_wp2
                go_loopg [11, 12] k1 (fun kq v11 v12 w' => ∃ (x7_2 : List Bool) (x11_2 : Int) (x12_2 : Int), v11 = .int .i64 x11_2 ∧ v12 = .int .i64 x12_2 ∧ Aside0 (pomaderef07_product.l2 kq l0 l1 (wrap64 ((l0.length : Int) / 2)) x7_2 x8_1 x11_2 x12_2 = some (r1, r2)) ∧ Aside0 (kq ≤ k1) ∧ Aside0 (Kd.R Kd.bool 4 w' w.heap.size (fun _ => True) v277 x7_2) ∧ Aside0 (Kd.R (Kd.int .i64) 3 w' w.heap.size (fun _ => True) v280 x8_1) ∧ Aside0 (Below w.heap.size w w'))
                case atStart => exact ⟨(x7_1), (0), ((wrap64 ((l0.length : Int) / 2))), (by first | rfl | (simp; done) | (simp [*]; done)), (by first | rfl | (simp; done) | (simp [*]; done)), H', ⟨Nat.le_refl _⟩, ⟨by (with_reducible repeat (first | apply Kd.R_alloc | apply Kd.R_drewN | apply Kd.R_drew)); exact HO_7.out⟩, ⟨by (with_reducible repeat (first | apply Kd.R_alloc | apply Kd.R_drewN | apply Kd.R_drew)); exact HO_8.out⟩, ⟨by repeat (first | (with_reducible first | exact HB.out | apply below_alloc | apply pw_below_drewN | apply below_drew1) | exact HB.out)⟩⟩
                case round =>
                  clear H'
                  try clear c1
                  try clear p1
                  try clear q1
                  try clear hx1
                  try clear c2
                  try clear p2
                  try clear q2
                  try clear hx2
                  try clear c3
                  try clear p3
                  try clear q3
                  try clear hx3
                  try clear hf3
                  try clear c4
                  try clear c4b0
                  try clear c4b1
                  try clear p4
                  try clear q4
                  try clear hx4
                  try clear hf4
                  try clear c5
                  try clear c5b0
                  try clear c5b1
                  try clear p5
                  try clear q5
                  try clear hx5
                  try clear hf5
                  try clear p6
                  try clear c7
                  try clear c7b0
                  try clear c7b1
                  try clear c8
                  try clear c8b0
                  try clear c8b1
                  try clear c13
                  try clear c13b0
                  try clear c15
                  try clear c15b0
                  try clear c16
                  try clear c16b0
                  try clear c17
                  try clear c17b0
                  try clear p18
                  try clear q18
                  try clear hx18
                  try clear hf18
                  try clear c22
                  try clear c22b0
                  try clear c23
                  try clear c23b0
                  try clear c24
                  try clear c24b0
                  try clear c26
                  try clear c26b0
                  try clear c27
                  try clear c27b0
                  try clear c28
                  try clear c28b0
                  try clear p28
                  try clear q28
                  try clear hx28
                  try clear c29
                  try clear c29b0
                  try clear p30
                  try clear q30
                  try clear hx30
                  try clear hf30
                  try clear c34
                  try clear c34b0
                  try clear c35
                  try clear c36
                  try clear c36b0
                  try clear c37
                  try clear c37b0
                  try clear c38
                  try clear c38b0
                  try clear p39
                  try clear q39
                  try clear hx39
                  try clear hf39
                  try clear c42
                  try clear c42b0
                  try clear c43
                  try clear c43b0
                  try clear p44
                  try clear q44
                  try clear hx44
                  try clear hf44
                  try clear c47
                  try clear c47b0
                  try clear c49
                  try clear c49b0
                  try clear c50
                  try clear c50b0
                  try clear p51
                  try clear q51
                  try clear hx51
                  try clear hf51
                  try clear c55
                  try clear c55b0
                  try clear c56
                  try clear c56b0
                  try clear p57
                  try clear q57
                  try clear hx57
                  try clear hf57
                  try clear hx18_0
                  try clear hx283_0
                  try clear hx284_0
                  try clear hx30_0
                  try clear hx39_0
                  try clear hx44_0
                  try clear hx51_0
                  try clear hx57_0
                  try clear p1
                  try clear p18
                  try clear p2
                  try clear p28
                  try clear p283
                  try clear p284
                  try clear p3
                  try clear p30
                  try clear p39
                  try clear p44
                  try clear p51
                  try clear p57
                  try clear p6
                  try clear q1
                  try clear q18
                  try clear q2
                  try clear q28
                  try clear q283
                  try clear q284
                  try clear q3
                  try clear q30
                  try clear q39
                  try clear q44
                  try clear q51
                  try clear q57
                  obtain ⟨x7_2, x11_2, x12_2, rfl, rfl, HA, HK2, HO_7, HO_8, HB⟩ := hrel
                  cases gk with
                  | zero => exact absurd HA.out (by simp [pomaderef07_product.l2])
                  | succ k2 =>
                    have H := HA.out
                    clear HA
                    simp only [pomaderef07_product.l2] at H
                    by_cases c60 : x12_2 < (wrap64 (2 * (wrap64 ((l0.length : Int) / 2))))
                    · rw [if_pos c60] at H
                      have c60b0 : decide (x12_2 < (wrap64 (2 * (wrap64 ((l0.length : Int) / 2))))) = true := decide_eq_true c60
                      (try simp only [hji3] at c60b0)
                      (try simp only [hji6] at c60b0)
                      (try simp only [hji25] at c60b0)
                      (try simp only [hji48] at c60b0)
                      (try simp only [hji54] at c60b0)
                      clear c60
                      by_cases c61 : 0 ≤ x12_2
                      · rw [if_pos c61] at H
                        have c61b0 : decide (0 ≤ x12_2) = true := decide_eq_true c61
                        clear c61
                        by_cases c62 : x12_2 < (x7_2.length : Int)
                        · rw [if_pos c62] at H
                          have c62b0 : decide (x12_2 < (x7_2.length : Int)) = true := decide_eq_true c62
                          clear c62
                          obtain ⟨bq63, hbq63⟩ : ∃ b_ : Bool, b_ = (rdOf false x7_2 x12_2) := ⟨_, rfl⟩
                          replace H : (if bq63 = true then (pomaderef07_product.l2 k2 l0 l1 (wrap64 ((l0.length : Int) / 2)) x7_2 x8_1 x11_2 (wrap64 (x12_2 + 1))) else (pomaderef07_product.l3 k2 l0 l1 (wrap64 ((l0.length : Int) / 2)) x7_2 x8_1 (wrap64 (x11_2 + 1)) x12_2 x12_2)) = some (r1, r2) := by rw [← hbq63] at H; exact H
                          have Nbq63 := Aside0.mk hbq63
                          clear hbq63
                          by_cases c64 : bq63 = true
                          · subst c64
                            have H1 : (pomaderef07_product.l2 k2 l0 l1 (wrap64 ((l0.length : Int) / 2)) x7_2 x8_1 x11_2 (wrap64 (x12_2 + 1))) = some (r1, r2) := by rw [if_pos rfl] at H; exact H
                            clear H
                            have H := H1
                            clear H1
                            have H' := Aside0.mk H
                            clear H
                            obtain ⟨Ao65, co65, eo65⟩ := Kd.R_slice HO_7.out
                            subst eo65
                            have p290 : 0 ≤ (x12_2 : Int) := of_decide_eq_true (by first | (with_reducible assumption) | assumption)
                            have q290 : x12_2 < (x7_2.length : Int) := of_decide_eq_true (by first | (with_reducible assumption) | assumption)
                            obtain ⟨ad290, e290, hx290_0⟩ := Kd.at_bool (Kd.R_reads' HO_7.out).2.2 x12_2 p290 q290
                            (try rw [← Nbq63.out] at hx290_0)
                            cases e290
                            replace p290 := eq_true p290
                            replace q290 := eq_true q290
                            go_wp2
                            go_roundg k2
                            case measure => have := HK1.out; have := HK2.out; omega
                            case rel => exact ⟨(x7_2), (x11_2), (wrap64 (x12_2 + 1)), (by first | rfl | (simp; done) | (simp [*]; done)), (by first | rfl | (simp; done) | (simp [*]; done)), H', ⟨by have := HK1.out; have := HK2.out; omega⟩, ⟨by (with_reducible repeat (first | apply Kd.R_alloc | apply Kd.R_drewN | apply Kd.R_drew)); exact HO_7.out⟩, ⟨by (with_reducible repeat (first | apply Kd.R_alloc | apply Kd.R_drewN | apply Kd.R_drew)); exact HO_8.out⟩, ⟨by repeat (first | (with_reducible first | exact HB.out | apply below_alloc | apply pw_below_drewN | apply below_drew1) | exact HB.out)⟩⟩
                          · replace c64 := Bool.eq_false_iff.mpr c64
                            subst c64
                            have H1 : (pomaderef07_product.l3 k2 l0 l1 (wrap64 ((l0.length : Int) / 2)) x7_2 x8_1 (wrap64 (x11_2 + 1)) x12_2 x12_2) = some (r1, r2) := by rw [if_neg (show ¬ (false = true) by decide)] at H; exact H
                            clear H
                            have H := H1
                            clear H1
                            have H' := Aside0.mk H
                            clear H
                            obtain ⟨Ao66, co66, eo66⟩ := Kd.R_slice HO_7.out
                            subst eo66
                            have p290 : 0 ≤ (x12_2 : Int) := of_decide_eq_true (by first | (with_reducible assumption) | assumption)
                            have q290 : x12_2 < (x7_2.length : Int) := of_decide_eq_true (by first | (with_reducible assumption) | assumption)
                            obtain ⟨ad290, e290, hx290_0⟩ := Kd.at_bool (Kd.R_reads' HO_7.out).2.2 x12_2 p290 q290
                            (try rw [← Nbq63.out] at hx290_0)
                            cases e290
                            replace p290 := eq_true p290
                            replace q290 := eq_true q290
                            go_wp2
                            go_loopg [13] k2 (fun kq v13 w' => ∃ (x7_3 : List Bool) (x13_3 : Int), v13 = .int .i64 x13_3 ∧ Aside0 (pomaderef07_product.l3 kq l0 l1 (wrap64 ((l0.length : Int) / 2)) x7_3 x8_1 (wrap64 (x11_2 + 1)) x12_2 x13_3 = some (r1, r2)) ∧ Aside0 (kq ≤ k2) ∧ Aside0 (Kd.R Kd.bool 4 w' w.heap.size (fun _ => True) (.slice (some ad290) x7_2.length co66) x7_3) ∧ Aside0 (Kd.R (Kd.int .i64) 3 w' w.heap.size (fun _ => True) v280 x8_1) ∧ Aside0 (Below w.heap.size w w'))
                            case atStart => exact ⟨(x7_2), (x12_2), (by first | rfl | (simp; done) | (simp [*]; done)), H', ⟨Nat.le_refl _⟩, ⟨by (with_reducible repeat (first | apply Kd.R_alloc | apply Kd.R_drewN | apply Kd.R_drew)); exact HO_7.out⟩, ⟨by (with_reducible repeat (first | apply Kd.R_alloc | apply Kd.R_drewN | apply Kd.R_drew)); exact HO_8.out⟩, ⟨by repeat (first | (with_reducible first | exact HB.out | apply below_alloc | apply pw_below_drewN | apply below_drew1) | exact HB.out)⟩⟩
                            case round =>
                              clear H'
                              try clear c1
                              try clear p1
                              try clear q1
                              try clear hx1
                              try clear c2
                              try clear p2
                              try clear q2
                              try clear hx2
                              try clear c3
                              try clear p3
                              try clear q3
                              try clear hx3
                              try clear hf3
                              try clear c4
                              try clear c4b0
                              try clear c4b1
                              try clear p4
                              try clear q4
                              try clear hx4
                              try clear hf4
                              try clear c5
                              try clear c5b0
                              try clear c5b1
                              try clear p5
                              try clear q5
                              try clear hx5
                              try clear hf5
                              try clear c6
                              try clear p6
                              try clear q6
                              try clear c7
                              try clear c7b0
                              try clear c7b1
                              try clear c8
                              try clear c8b0
                              try clear c8b1
                              try clear c13
                              try clear c13b0
                              try clear c15
                              try clear c15b0
                              try clear c16
                              try clear c16b0
                              try clear c17
                              try clear c17b0
                              try clear p18
                              try clear q18
                              try clear hx18
                              try clear hf18
                              try clear c22
                              try clear c22b0
                              try clear c23
                              try clear c23b0
                              try clear c24
                              try clear c24b0
                              try clear c26
                              try clear c26b0
                              try clear c27
                              try clear c27b0
                              try clear c28
                              try clear c28b0
                              try clear p28
                              try clear q28
                              try clear hx28
                              try clear c29
                              try clear c29b0
                              try clear p29
                              try clear q29
                              try clear hx29
                              try clear p30
                              try clear q30
                              try clear hx30
                              try clear hf30
                              try clear c34
                              try clear c34b0
                              try clear c35
                              try clear c36
                              try clear c36b0
                              try clear c37
                              try clear c37b0
                              try clear c38
                              try clear c38b0
                              try clear p39
                              try clear q39
                              try clear hx39
                              try clear hf39
                              try clear c42
                              try clear c42b0
                              try clear c43
                              try clear c43b0
                              try clear p44
                              try clear q44
                              try clear hx44
                              try clear hf44
                              try clear c47
                              try clear c47b0
                              try clear c49
                              try clear c49b0
                              try clear c50
                              try clear c50b0
                              try clear p51
                              try clear q51
                              try clear hx51
                              try clear hf51
                              try clear c55
                              try clear c55b0
                              try clear c56
                              try clear c56b0
                              try clear p57
                              try clear q57
                              try clear hx57
                              try clear hf57
                              try clear c60
                              try clear c60b0
                              try clear c61
                              try clear c61b0
                              try clear c62
                              try clear c62b0
                              try clear q63
                              try clear c64
                              try clear p64
                              try clear hx18_0
                              try clear hx283_0
                              try clear hx284_0
                              try clear hx290_0
                              try clear hx30_0
                              try clear hx39_0
                              try clear hx44_0
                              try clear hx51_0
                              try clear hx57_0
                              try clear p1
                              try clear p18
                              try clear p2
                              try clear p28
                              try clear p283
                              try clear p284
                              try clear p290
                              try clear p3
                              try clear p30
                              try clear p39
                              try clear p4
                              try clear p44
                              try clear p5
                              try clear p51
                              try clear p57
                              try clear p6
                              try clear q1
                              try clear q18
                              try clear q2
                              try clear q28
                              try clear q283
                              try clear q284
                              try clear q290
                              try clear q3
                              try clear q30
                              try clear q39
                              try clear q4
                              try clear q44
                              try clear q5
                              try clear q51
                              try clear q57
                              obtain ⟨x7_3, x13_3, rfl, HA, HK3, HO_7, HO_8, HB⟩ := hrel
                              have hl7_3 := (Kd.R_reads' HO_7.out).1
                              rw [hl7_3] at HO_7
                              (try simp only [hl7_3])
                              (try simp only [hl7_3] at HO_8)
                              cases gk with
                              | zero => exact absurd HA.out (by simp [pomaderef07_product.l3])
                              | succ k3 =>
                                have H := HA.out
                                clear HA
                                simp only [pomaderef07_product.l3] at H
                                by_cases c67 : 0 ≤ x13_3
                                · rw [if_pos c67] at H
                                  have c67b0 : decide (0 ≤ x13_3) = true := decide_eq_true c67
                                  clear c67
                                  by_cases c68 : x13_3 < (x7_3.length : Int)
                                  · rw [if_pos c68] at H
                                    have c68b0 : decide (x13_3 < (x7_3.length : Int)) = true := decide_eq_true c68
                                    clear c68
                                    obtain ⟨bq69, hbq69⟩ : ∃ b_ : Bool, b_ = (rdOf false x7_3 x13_3) := ⟨_, rfl⟩
                                    replace H : (if bq69 = true then (pomaderef07_product.l2 k3 l0 l1 (wrap64 ((l0.length : Int) / 2)) x7_3 x8_1 (wrap64 (x11_2 + 1)) (wrap64 (x12_2 + 1))) else (if x13_3 < (l0.length : Int) then (if 0 ≤ (rd l0 x13_3) then (if (rd l0 x13_3) < (x7_3.length : Int) then (if 0 ≤ (wrap64 ((rd l0 x13_3) - (wrap64 ((l0.length : Int) / 2)))) then (if (wrap64 ((rd l0 x13_3) - (wrap64 ((l0.length : Int) / 2)))) < (l1.length : Int) then (if 0 ≤ (wrap64 ((wrap64 (2 * (wrap64 ((l0.length : Int) / 2)))) + (rd l1 (wrap64 ((rd l0 x13_3) - (wrap64 ((l0.length : Int) / 2))))))) then (if (wrap64 ((wrap64 (2 * (wrap64 ((l0.length : Int) / 2)))) + (rd l1 (wrap64 ((rd l0 x13_3) - (wrap64 ((l0.length : Int) / 2))))))) < (x7_3.length : Int) then (pomaderef07_product.l3 k3 l0 l1 (wrap64 ((l0.length : Int) / 2)) (((x7_3.set (x13_3 : Int).toNat true).set ((rd l0 x13_3) : Int).toNat true).set ((wrap64 ((wrap64 (2 * (wrap64 ((l0.length : Int) / 2)))) + (rd l1 (wrap64 ((rd l0 x13_3) - (wrap64 ((l0.length : Int) / 2))))))) : Int).toNat true) x8_1 (wrap64 (x11_2 + 1)) x12_2 (wrap64 ((wrap64 ((wrap64 (2 * (wrap64 ((l0.length : Int) / 2)))) + (rd l1 (wrap64 ((rd l0 x13_3) - (wrap64 ((l0.length : Int) / 2))))))) - (wrap64 ((l0.length : Int) / 2))))) else (none)) else (none)) else (none)) else (none)) else (none)) else (none)) else (none))) = some (r1, r2) := by rw [← hbq69] at H; exact H
                                    have Nbq69 := Aside0.mk hbq69
                                    clear hbq69
                                    by_cases c70 : bq69 = true
                                    · subst c70
                                      have H1 : (pomaderef07_product.l2 k3 l0 l1 (wrap64 ((l0.length : Int) / 2)) x7_3 x8_1 (wrap64 (x11_2 + 1)) (wrap64 (x12_2 + 1))) = some (r1, r2) := by rw [if_pos rfl] at H; exact H
                                      clear H
                                      have H := H1
                                      clear H1
                                      have H' := Aside0.mk H
                                      clear H
                                      have p291 : 0 ≤ (x13_3 : Int) := of_decide_eq_true (by first | (with_reducible assumption) | assumption)
                                      have q291 : x13_3 < (x7_3.length : Int) := of_decide_eq_true (by first | (with_reducible assumption) | assumption)
                                      obtain ⟨ad291, e291, hx291_0⟩ := Kd.at_bool (Kd.R_reads' HO_7.out).2.2 x13_3 p291 q291
                                      (try rw [← Nbq63.out] at hx291_0)
                                      (try rw [← Nbq69.out] at hx291_0)
                                      obtain rfl : ad290 = ad291 := (by injection e291)
                                      replace p291 := eq_true p291
                                      replace q291 := eq_true q291
                                      go_wp2
                                      (try simp only [← hl7_3])
                                      go_roundg k3
                                      case measure => have := HK1.out; have := HK2.out; have := HK3.out; omega
                                      case rel => exact ⟨(x7_3), ((wrap64 (x11_2 + 1))), (wrap64 (x12_2 + 1)), (by first | rfl | (simp; done) | (simp [*]; done)), (by first | rfl | (simp; done) | (simp [*]; done)), H', ⟨by have := HK1.out; have := HK2.out; have := HK3.out; omega⟩, ⟨by (try simp only [hl7_3]); (with_reducible repeat (first | apply Kd.R_alloc | apply Kd.R_drewN | apply Kd.R_drew)); exact HO_7.out⟩, ⟨by (try simp only [hl7_3]); (with_reducible repeat (first | apply Kd.R_alloc | apply Kd.R_drewN | apply Kd.R_drew)); exact HO_8.out⟩, ⟨by repeat (first | (with_reducible first | exact HB.out | apply below_alloc | apply pw_below_drewN | apply below_drew1) | exact HB.out)⟩⟩
                                    · replace c70 := Bool.eq_false_iff.mpr c70
                                      subst c70
                                      have H1 : (if x13_3 < (l0.length : Int) then (if 0 ≤ (rd l0 x13_3) then (if (rd l0 x13_3) < (x7_3.length : Int) then (if 0 ≤ (wrap64 ((rd l0 x13_3) - (wrap64 ((l0.length : Int) / 2)))) then (if (wrap64 ((rd l0 x13_3) - (wrap64 ((l0.length : Int) / 2)))) < (l1.length : Int) then (if 0 ≤ (wrap64 ((wrap64 (2 * (wrap64 ((l0.length : Int) / 2)))) + (rd l1 (wrap64 ((rd l0 x13_3) - (wrap64 ((l0.length : Int) / 2))))))) then (if (wrap64 ((wrap64 (2 * (wrap64 ((l0.length : Int) / 2)))) + (rd l1 (wrap64 ((rd l0 x13_3) - (wrap64 ((l0.length : Int) / 2))))))) < (x7_3.length : Int) then (pomaderef07_product.l3 k3 l0 l1 (wrap64 ((l0.length : Int) / 2)) (((x7_3.set (x13_3 : Int).toNat true).set ((rd l0 x13_3) : Int).toNat true).set ((wrap64 ((wrap64 (2 * (wrap64 ((l0.length : Int) / 2)))) + (rd l1 (wrap64 ((rd l0 x13_3) - (wrap64 ((l0.length : Int) / 2))))))) : Int).toNat true) x8_1 (wrap64 (x11_2 + 1)) x12_2 (wrap64 ((wrap64 ((wrap64 (2 * (wrap64 ((l0.length : Int) / 2)))) + (rd l1 (wrap64 ((rd l0 x13_3) - (wrap64 ((l0.length : Int) / 2))))))) - (wrap64 ((l0.length : Int) / 2))))) else (none)) else (none)) else (none)) else (none)) else (none)) else (none)) else (none)) = some (r1, r2) := by rw [if_neg (show ¬ (false = true) by decide)] at H; exact H
                                      clear H
                                      have H := H1
                                      clear H1
                                      obtain ⟨y292, hy292⟩ : ∃ y_ : List Bool, y_ = (x7_3.set (x13_3 : Int).toNat true) := ⟨_, rfl⟩
                                      replace H : (if x13_3 < (l0.length : Int) then (if 0 ≤ (rd l0 x13_3) then (if (rd l0 x13_3) < (x7_3.length : Int) then (if 0 ≤ (wrap64 ((rd l0 x13_3) - (wrap64 ((l0.length : Int) / 2)))) then (if (wrap64 ((rd l0 x13_3) - (wrap64 ((l0.length : Int) / 2)))) < (l1.length : Int) then (if 0 ≤ (wrap64 ((wrap64 (2 * (wrap64 ((l0.length : Int) / 2)))) + (rd l1 (wrap64 ((rd l0 x13_3) - (wrap64 ((l0.length : Int) / 2))))))) then (if (wrap64 ((wrap64 (2 * (wrap64 ((l0.length : Int) / 2)))) + (rd l1 (wrap64 ((rd l0 x13_3) - (wrap64 ((l0.length : Int) / 2))))))) < (x7_3.length : Int) then (pomaderef07_product.l3 k3 l0 l1 (wrap64 ((l0.length : Int) / 2)) ((y292.set ((rd l0 x13_3) : Int).toNat true).set ((wrap64 ((wrap64 (2 * (wrap64 ((l0.length : Int) / 2)))) + (rd l1 (wrap64 ((rd l0 x13_3) - (wrap64 ((l0.length : Int) / 2))))))) : Int).toNat true) x8_1 (wrap64 (x11_2 + 1)) x12_2 (wrap64 ((wrap64 ((wrap64 (2 * (wrap64 ((l0.length : Int) / 2)))) + (rd l1 (wrap64 ((rd l0 x13_3) - (wrap64 ((l0.length : Int) / 2))))))) - (wrap64 ((l0.length : Int) / 2))))) else (none)) else (none)) else (none)) else (none)) else (none)) else (none)) else (none)) = some (r1, r2) := by first | (rw [hy292]; with_reducible exact H) | (have H2_ := (Option.bind_some _ _).symm.trans H; rw [hy292]; with_reducible exact H2_) | (have H2_ := (Option.bind_some _ _).symm.trans H; with_reducible exact H2_) | with_reducible exact H | (rw [hy292]; exact H) | exact H
                                      have Ny292 := Aside0.mk hy292
                                      clear hy292
                                      by_cases c72 : x13_3 < (l0.length : Int)
                                      · rw [if_pos c72] at H
                                        have c72b0 : decide (x13_3 < (l0.length : Int)) = true := decide_eq_true c72
                                        clear c72
                                        by_cases c73 : 0 ≤ (rd l0 x13_3)
                                        · rw [if_pos c73] at H
                                          have c73b0 : decide (0 ≤ (rd l0 x13_3)) = true := decide_eq_true c73
                                          clear c73
                                          by_cases c74 : (rd l0 x13_3) < (x7_3.length : Int)
                                          · rw [if_pos c74] at H
                                            have c74b0 : decide ((rd l0 x13_3) < (x7_3.length : Int)) = true := decide_eq_true c74
                                            clear c74
                                            obtain ⟨y294, hy294⟩ : ∃ y_ : List Bool, y_ = (y292.set ((rd l0 x13_3) : Int).toNat true) := ⟨_, rfl⟩
                                            replace H : (if 0 ≤ (wrap64 ((rd l0 x13_3) - (wrap64 ((l0.length : Int) / 2)))) then (if (wrap64 ((rd l0 x13_3) - (wrap64 ((l0.length : Int) / 2)))) < (l1.length : Int) then (if 0 ≤ (wrap64 ((wrap64 (2 * (wrap64 ((l0.length : Int) / 2)))) + (rd l1 (wrap64 ((rd l0 x13_3) - (wrap64 ((l0.length : Int) / 2))))))) then (if (wrap64 ((wrap64 (2 * (wrap64 ((l0.length : Int) / 2)))) + (rd l1 (wrap64 ((rd l0 x13_3) - (wrap64 ((l0.length : Int) / 2))))))) < (x7_3.length : Int) then (pomaderef07_product.l3 k3 l0 l1 (wrap64 ((l0.length : Int) / 2)) (y294.set ((wrap64 ((wrap64 (2 * (wrap64 ((l0.length : Int) / 2)))) + (rd l1 (wrap64 ((rd l0 x13_3) - (wrap64 ((l0.length : Int) / 2))))))) : Int).toNat true) x8_1 (wrap64 (x11_2 + 1)) x12_2 (wrap64 ((wrap64 ((wrap64 (2 * (wrap64 ((l0.length : Int) / 2)))) + (rd l1 (wrap64 ((rd l0 x13_3) - (wrap64 ((l0.length : Int) / 2))))))) - (wrap64 ((l0.length : Int) / 2))))) else (none)) else (none)) else (none)) else (none)) = some (r1, r2) := by first | (rw [hy294]; with_reducible exact H) | (have H2_ := (Option.bind_some _ _).symm.trans H; rw [hy294]; with_reducible exact H2_) | (have H2_ := (Option.bind_some _ _).symm.trans H; with_reducible exact H2_) | with_reducible exact H | (rw [hy294]; exact H) | exact H
                                            have Ny294 := Aside0.mk hy294
                                            clear hy294
                                            obtain ⟨ji76, hji76⟩ : ∃ j_ : Int, (wrap64 ((rd l0 x13_3) - (wrap64 ((l0.length : Int) / 2)))) = j_ := ⟨_, rfl⟩
                                            replace H : (if 0 ≤ (ji76) then (if (ji76) < (l1.length : Int) then (if 0 ≤ (wrap64 ((wrap64 (2 * (wrap64 ((l0.length : Int) / 2)))) + (rd l1 (ji76)))) then (if (wrap64 ((wrap64 (2 * (wrap64 ((l0.length : Int) / 2)))) + (rd l1 (ji76)))) < (x7_3.length : Int) then (pomaderef07_product.l3 k3 l0 l1 (wrap64 ((l0.length : Int) / 2)) (y294.set ((wrap64 ((wrap64 (2 * (wrap64 ((l0.length : Int) / 2)))) + (rd l1 (ji76)))) : Int).toNat true) x8_1 (wrap64 (x11_2 + 1)) x12_2 (wrap64 ((wrap64 ((wrap64 (2 * (wrap64 ((l0.length : Int) / 2)))) + (rd l1 (ji76)))) - (wrap64 ((l0.length : Int) / 2))))) else (none)) else (none)) else (none)) else (none)) = some (r1, r2) := by first | (rw [hji76] at H; exact H) | (simp only [hji76] at H ⊢; exact H)
                                            have hji76w : (IntKind.i64.wrap ((rd l0 x13_3) - (wrap64 ((l0.length : Int) / 2)))) = ji76 := (i64_w _).trans hji76
                                            (try simp only [hji3] at hji76)
                                            (try simp only [hji3] at hji76w)
                                            (try simp only [hji6] at hji76)
                                            (try simp only [hji6] at hji76w)
                                            (try simp only [hji25] at hji76)
                                            (try simp only [hji25] at hji76w)
                                            (try simp only [hji48] at hji76)
                                            (try simp only [hji48] at hji76w)
                                            (try simp only [hji54] at hji76)
                                            (try simp only [hji54] at hji76w)
                                            by_cases c77 : 0 ≤ (ji76)
                                            · rw [if_pos c77] at H
                                              have c77b0 : decide (0 ≤ (ji76)) = true := decide_eq_true c77
                                              clear c77
                                              by_cases c78 : (ji76) < (l1.length : Int)
                                              · rw [if_pos c78] at H
                                                have c78b0 : decide ((ji76) < (l1.length : Int)) = true := decide_eq_true c78
                                                clear c78
                                                obtain ⟨ji79, hji79⟩ : ∃ j_ : Int, (wrap64 ((wrap64 (2 * (wrap64 ((l0.length : Int) / 2)))) + (rd l1 (ji76)))) = j_ := ⟨_, rfl⟩
                                                replace H : (if 0 ≤ (ji79) then (if (ji79) < (x7_3.length : Int) then (pomaderef07_product.l3 k3 l0 l1 (wrap64 ((l0.length : Int) / 2)) (y294.set ((ji79) : Int).toNat true) x8_1 (wrap64 (x11_2 + 1)) x12_2 (wrap64 ((ji79) - (wrap64 ((l0.length : Int) / 2))))) else (none)) else (none)) = some (r1, r2) := by first | (rw [hji79] at H; exact H) | (simp only [hji79] at H ⊢; exact H)
                                                have hji79w : (IntKind.i64.wrap ((wrap64 (2 * (wrap64 ((l0.length : Int) / 2)))) + (rd l1 (ji76)))) = ji79 := (i64_w _).trans hji79
                                                (try simp only [hji3] at hji79)
                                                (try simp only [hji3] at hji79w)
                                                (try simp only [hji6] at hji79)
                                                (try simp only [hji6] at hji79w)
                                                (try simp only [hji25] at hji79)
                                                (try simp only [hji25] at hji79w)
                                                (try simp only [hji48] at hji79)
                                                (try simp only [hji48] at hji79w)
                                                (try simp only [hji54] at hji79)
                                                (try simp only [hji54] at hji79w)
                                                (try simp only [hji76] at hji79)
                                                (try simp only [hji76] at hji79w)
                                                by_cases c80 : 0 ≤ (ji79)
                                                · rw [if_pos c80] at H
                                                  have c80b0 : decide (0 ≤ (ji79)) = true := decide_eq_true c80
                                                  clear c80
                                                  by_cases c81 : (ji79) < (x7_3.length : Int)
                                                  · rw [if_pos c81] at H
                                                    have c81b0 : decide ((ji79) < (x7_3.length : Int)) = true := decide_eq_true c81
                                                    clear c81
                                                    obtain ⟨y296, hy296⟩ : ∃ y_ : List Bool, y_ = (y294.set ((ji79) : Int).toNat true) := ⟨_, rfl⟩
                                                    replace H : (pomaderef07_product.l3 k3 l0 l1 (wrap64 ((l0.length : Int) / 2)) y296 x8_1 (wrap64 (x11_2 + 1)) x12_2 (wrap64 ((ji79) - (wrap64 ((l0.length : Int) / 2))))) = some (r1, r2) := by first | (rw [hy296]; with_reducible exact H) | (have H2_ := (Option.bind_some _ _).symm.trans H; rw [hy296]; with_reducible exact H2_) | (have H2_ := (Option.bind_some _ _).symm.trans H; with_reducible exact H2_) | with_reducible exact H | (rw [hy296]; exact H) | exact H
                                                    have Ny296 := Aside0.mk hy296
                                                    clear hy296
                                                    have H' := Aside0.mk H
                                                    clear H
                                                    have p291 : 0 ≤ (x13_3 : Int) := of_decide_eq_true (by first | (with_reducible assumption) | assumption)
                                                    have q291 : x13_3 < (x7_3.length : Int) := of_decide_eq_true (by first | (with_reducible assumption) | assumption)
                                                    obtain ⟨ad291, e291, hx291_0⟩ := Kd.at_bool (Kd.R_reads' HO_7.out).2.2 x13_3 p291 q291
                                                    (try rw [← Nbq63.out] at hx291_0)
                                                    (try rw [← Nbq69.out] at hx291_0)
                                                    obtain rfl : ad290 = ad291 := (by injection e291)
                                                    replace p291 := eq_true p291
                                                    replace q291 := eq_true q291
                                                    have p71 : 0 ≤ (x13_3 : Int) := of_decide_eq_true (by first | (with_reducible assumption) | assumption)
                                                    have q71 : (x13_3 : Int) < ((x7_3.length : Int) : Int) := of_decide_eq_true (by first | (with_reducible assumption) | assumption)
                                                    obtain ⟨go71, co71, eo71, gb71, gl71, cl71, HG71⟩ := Kd.R_form HO_7.out (by omega)
                                                    (first | cases eo71 | (injection eo71 with ea_ en_ ec_; (first | subst ea_ | (injection ea_ with ea_; subst ea_)); subst ec_; clear en_))
                                                    (try simp only [add_plain] at *)
                                                    have GB71 := Aside0.mk gb71
                                                    have GG71 := Aside0.mk HG71
                                                    clear gb71 gl71 HG71
                                                    (first | simp only [add_plain] at hx290_0 | skip)
                                                    (first | simp only [add_plain] at hx291_0 | skip)
                                                    obtain ⟨hx71_0, hf71_0⟩ := Kd.R_celln false HO_7.out (x13_3 : Int) p71 q71
                                                    replace p71 := eq_true p71
                                                    replace q71 := eq_true q71
                                                    have HP83 := Kd.R_putg HO_7.out (x13_3 : Int) true
                                                    go_wp2_with (first | ((with_reducible refine gate_store (t := 4) (p := 116) rfl ?_); refine store_event (t := 4) (p := 116) (v := ?vo_w84) (w1 := (wr.setCell ⟨go71, (x13_3 : Int).toNat, none⟩ (.bool true))) ?hg ?ho ?hn ?hr ?_; (case ho => rfl); (case hg => rfl); (case hn => rfl); (case hr => first | (go_simp; done) | (go_simp; rfl)); intro w84 hw; have hg : wr.grownBy w84 (some go71) := (by rw [hw]; exact HP83.2); have hp_ : Kd.R Kd.bool 4 w84 w.heap.size (fun _ => True) (.slice (some ⟨go71, 0, none⟩) x7_3.length co66) y292 := (by rw [hw, Ny292.out]; exact HP83.1); clear HP83; have n0_ := Aside0.mk (hp_); have n1_ := Aside0.mk (Kd.R_over' (v := (.slice (some ⟨go71, 0, none⟩) x7_3.length co66)) (by (with_reducible repeat (first | apply Kd.R_alloc | apply Kd.R_drewN | apply Kd.R_drew)); exact HO_8.out) (Kd.R_typed HO_7.out) (by decide) hg); have n2_ := Aside0.mk ((by rw [hw]; exact below_set (HB.out) GB71.out : Below w.heap.size w w84)); clear HO_7; clear HO_8; clear HB; have HO_7 := n0_; have HO_8 := n1_; have HB := n2_; clear n0_ n1_ n2_; clear hg hw hp_; have p293 : 0 ≤ (x13_3 : Int) := of_decide_eq_true (by first | (with_reducible assumption) | assumption); have q293 : x13_3 < (l0.length : Int) := of_decide_eq_true (by first | (with_reducible assumption) | assumption); obtain ⟨ad293, e293, hx293_0⟩ := Kd.at_int HR0.out x13_3 p293 q293; cases e293; replace hx293_0 := (HB.out.cell (World.block_lt_of_cell? w _ hx293_0)).trans hx293_0; replace p293 := eq_true p293; replace q293 := eq_true q293; have p75 : 0 ≤ ((rd l0 x13_3) : Int) := of_decide_eq_true (by first | (with_reducible assumption) | assumption); have q75 : ((rd l0 x13_3) : Int) < ((x7_3.length : Int) : Int) := of_decide_eq_true (by first | (with_reducible assumption) | assumption); obtain ⟨hx75_0, hf75_0⟩ := Kd.R_celln false HO_7.out ((rd l0 x13_3) : Int) p75 q75; replace p75 := eq_true p75; replace q75 := eq_true q75; obtain ⟨hy85_, hz85_⟩ := Kd.R_celln false HO_7.out ((rd l0 x13_3) : Int) (of_decide_eq_true (by first | (with_reducible assumption) | assumption)) (of_decide_eq_true (by first | (with_reducible assumption) | assumption)); have HP85 := Kd.R_putg HO_7.out ((rd l0 x13_3) : Int) true) | ((with_reducible refine gate_store (t := 4) (p := 123) rfl ?_); refine store_event (t := 4) (p := 123) (v := ?vo_w86) (w1 := (w84.setCell ⟨go71, ((rd l0 x13_3) : Int).toNat, none⟩ (.bool true))) ?hg ?ho ?hn ?hr ?_; (case ho => rfl); (case hg => rfl); (case hn => rfl); (case hr => first | (go_simp; done) | (go_simp; rfl)); intro w86 hw; have hg : w84.grownBy w86 (some go71) := (by rw [hw]; exact HP85.2); have hp_ : Kd.R Kd.bool 4 w86 w.heap.size (fun _ => True) (.slice (some ⟨go71, 0, none⟩) x7_3.length co66) y294 := (by rw [hw, Ny294.out]; exact HP85.1); clear HP85; have n0_ := Aside0.mk (hp_); have n1_ := Aside0.mk (Kd.R_over' (v := (.slice (some ⟨go71, 0, none⟩) x7_3.length co66)) (by (with_reducible repeat (first | apply Kd.R_alloc | apply Kd.R_drewN | apply Kd.R_drew)); exact HO_8.out) (Kd.R_typed HO_7.out) (by decide) hg); have n2_ := Aside0.mk ((by rw [hw]; exact below_set (HB.out) GB71.out : Below w.heap.size w w86)); clear HO_7; clear HO_8; clear HB; have HO_7 := n0_; have HO_8 := n1_; have HB := n2_; clear n0_ n1_ n2_; clear hg hw hp_; have p295 : 0 ≤ ((ji76) : Int) := of_decide_eq_true (by first | (with_reducible assumption) | assumption); have q295 : (ji76) < (l1.length : Int) := of_decide_eq_true (by first | (with_reducible assumption) | assumption); obtain ⟨ad295, e295, hx295_0⟩ := Kd.at_int HR1.out (ji76) p295 q295; cases e295; replace hx295_0 := (HB.out.cell (World.block_lt_of_cell? w _ hx295_0)).trans hx295_0; replace p295 := eq_true p295; replace q295 := eq_true q295; have p82 : 0 ≤ ((ji79) : Int) := of_decide_eq_true (by first | (with_reducible assumption) | assumption); have q82 : ((ji79) : Int) < ((x7_3.length : Int) : Int) := of_decide_eq_true (by first | (with_reducible assumption) | assumption); obtain ⟨hx82_0, hf82_0⟩ := Kd.R_celln false HO_7.out ((ji79) : Int) p82 q82; replace p82 := eq_true p82; replace q82 := eq_true q82; obtain ⟨hy87_, hz87_⟩ := Kd.R_celln false HO_7.out ((ji79) : Int) (of_decide_eq_true (by first | (with_reducible assumption) | assumption)) (of_decide_eq_true (by first | (with_reducible assumption) | assumption)); have HP87 := Kd.R_putg HO_7.out ((ji79) : Int) true) | ((with_reducible refine gate_store (t := 4) (p := 135) rfl ?_); refine store_event (t := 4) (p := 135) (v := ?vo_w88) (w1 := (w86.setCell ⟨go71, ((ji79) : Int).toNat, none⟩ (.bool true))) ?hg ?ho ?hn ?hr ?_; (case ho => rfl); (case hg => rfl); (case hn => rfl); (case hr => first | (go_simp; done) | (go_simp; rfl)); intro w88 hw; have hg : w86.grownBy w88 (some go71) := (by rw [hw]; exact HP87.2); have hp_ : Kd.R Kd.bool 4 w88 w.heap.size (fun _ => True) (.slice (some ⟨go71, 0, none⟩) x7_3.length co66) y296 := (by rw [hw, Ny296.out]; exact HP87.1); clear HP87; have n0_ := Aside0.mk (hp_); have n1_ := Aside0.mk (Kd.R_over' (v := (.slice (some ⟨go71, 0, none⟩) x7_3.length co66)) (by (with_reducible repeat (first | apply Kd.R_alloc | apply Kd.R_drewN | apply Kd.R_drew)); exact HO_8.out) (Kd.R_typed HO_7.out) (by decide) hg); have n2_ := Aside0.mk ((by rw [hw]; exact below_set (HB.out) GB71.out : Below w.heap.size w w88)); clear HO_7; clear HO_8; clear HB; have HO_7 := n0_; have HO_8 := n1_; have HB := n2_; clear n0_ n1_ n2_; clear hg hw hp_))
                                                    (try simp only [← hl7_3])
                                                    go_roundg k3
                                                    case measure => have := HK1.out; have := HK2.out; have := HK3.out; omega
                                                    case rel => exact ⟨(y296), (wrap64 ((ji79) - (wrap64 ((l0.length : Int) / 2)))), (by first | rfl | (simp; done) | (simp only [hji3, hji6]; done) | (simp only [← hji79] <;> (first | rfl | simp)) | (simp [*]; done)), H', ⟨by have := HK1.out; have := HK2.out; have := HK3.out; omega⟩, ⟨by (try simp only [hl7_3]); (with_reducible repeat (first | apply Kd.R_alloc | apply Kd.R_drewN | apply Kd.R_drew)); exact HO_7.out⟩, ⟨by (try simp only [hl7_3]); (with_reducible repeat (first | apply Kd.R_alloc | apply Kd.R_drewN | apply Kd.R_drew)); exact HO_8.out⟩, ⟨by repeat (first | (with_reducible first | exact HB.out | apply below_alloc | apply pw_below_drewN | apply below_drew1) | exact HB.out)⟩⟩
                                                  · rw [if_neg c81] at H
                                                    exact absurd H (by simp)
                                                · rw [if_neg c80] at H
                                                  exact absurd H (by simp)
                                              · rw [if_neg c78] at H
                                                exact absurd H (by simp)
                                            · rw [if_neg c77] at H
                                              exact absurd H (by simp)
                                          · rw [if_neg c74] at H
                                            exact absurd H (by simp)
                                        · rw [if_neg c73] at H
                                          exact absurd H (by simp)
                                      · rw [if_neg c72] at H
                                        exact absurd H (by simp)
                                  · rw [if_neg c68] at H
                                    exact absurd H (by simp)
                                · rw [if_neg c67] at H
                                  exact absurd H (by simp)
                        · rw [if_neg c62] at H
                          exact absurd H (by simp)
                      · rw [if_neg c61] at H
                        exact absurd H (by simp)
                    · rw [if_neg c60] at H
                      have c60b0 : decide (x12_2 < (wrap64 (2 * (wrap64 ((l0.length : Int) / 2))))) = false := decide_eq_false c60
                      (try simp only [hji3] at c60b0)
                      (try simp only [hji6] at c60b0)
                      (try simp only [hji25] at c60b0)
                      (try simp only [hji48] at c60b0)
                      (try simp only [hji54] at c60b0)
                      (try simp only [hji76] at c60b0)
                      (try simp only [hji79] at c60b0)
                      clear c60
                      simp only [Option.some.injEq, Prod.mk.injEq] at H
                      obtain ⟨rfl, rfl⟩ := H
                      go_wp2
                      go_ret2
                      exact ⟨_, by first | rfl | (simp [errW_none, errW_some] <;> rfl) | (simp only [← hji3, ← hji6]; first | rfl | (simp [errW_none, errW_some] <;> rfl)) | (simp [*, errW_none, errW_some] <;> rfl), by (with_reducible repeat (first | apply Kd.R_alloc | apply Kd.R_drewN | apply Kd.R_drew)); exact HO_8.out, by repeat (first | (with_reducible first | exact HB.out | apply below_alloc | apply pw_below_drewN | apply below_drew1) | exact HB.out)⟩
        · rw [if_neg c8] at H
          exact absurd H (by simp)
      · rw [if_neg c7] at H
        exact absurd H (by simp)
    · rw [if_neg c5] at H
      exact absurd H (by simp)
  · rw [if_neg c4] at H
    exact absurd H (by simp)
/-! ### pomaderef07_two: function 68 -/
def pomaderef07_two.f (k : Nat) (l0 : List Int) (l1 : List Int) : Option (Int) := (pomaderef07_Diagram.f k l0).bind fun t297 => (if t297 = 0 then ((pomaderef07_Diagram.f k l1).bind fun t298 => (if t298 = 0 then (if (l0.length : Int) = (l1.length : Int) then (some t298) else (some 2)) else (some t298))) else (some t297))
theorem pomaderef07_two.mono : ∀ a0 a1 k, LeO (pomaderef07_two.f k a0 a1) (pomaderef07_two.f (k + 1) a0 a1) := by
  intro a0 a1 k
  unfold pomaderef07_two.f
  repeat' first
      | (with_reducible exact pomaderef07_Diagram.mono _ _)
      | (with_reducible exact LeO.refl _)
      | (with_reducible exact LeO.none _)
      | (with_reducible refine LeO.ite ?_ ?_)
      | (with_reducible refine LeO.bind ?_ (fun _ => ?_))
      | exact pomaderef07_Diagram.mono _ _
      | exact LeO.none _
      | refine LeO.ite ?_ ?_
      | refine LeO.bind ?_ (fun _ => ?_)
set_option maxHeartbeats 8000000 in
set_option maxRecDepth 100000 in
theorem pomaderef07_two.calls (k : Nat) (A0 : Option Addr) (c0 : Nat) (l0 : List Int) (A1 : Option Addr) (c1 : Nat) (l1 : List Int) (r : Int) (w : World) (hr0 : Kd.C (Kd.int .i64) w A0 l0.length l0) (hc0 : l0.length ≤ c0) (hr1 : Kd.C (Kd.int .i64) w A1 l1.length l1) (hc1 : l1.length ≤ c1) (h : pomaderef07_two.f k l0 l1 = some r) :
    Calls Try.prog 68 #[.slice A0 l0.length c0, .slice A1 l1.length c1] w fun e w' => e = .returned (.int .i64 r) ∧ Drawn0 w w' := by
  have HR0 := Aside0.mk hr0
  have HC0 := Aside0.mk hc0
  clear hr0 hc0
  have HR1 := Aside0.mk hr1
  have HC1 := Aside0.mk hc1
  clear hr1 hc1
  have H : ((pomaderef07_Diagram.f k l0).bind fun t297 => (if t297 = 0 then ((pomaderef07_Diagram.f k l1).bind fun t298 => (if t298 = 0 then (if (l0.length : Int) = (l1.length : Int) then (some t298) else (some 2)) else (some t298))) else (some t297))) = some r := h
  clear h
  replace H := Option.bind_eq_some_iff.mp H
  obtain ⟨t297, A30, H⟩ := H
  replace H : (if t297 = 0 then ((pomaderef07_Diagram.f k l1).bind fun t298 => (if t298 = 0 then (if (l0.length : Int) = (l1.length : Int) then (some t298) else (some 2)) else (some t298))) else (some t297)) = some r := H
  have A3 := Aside0.mk A30
  clear A30
  by_cases c4 : t297 = 0
  · rw [if_pos c4] at H
    have c4b0 : (t297 == 0) = true := beq_iff_eq.mpr c4
    have c4b1 : (t297 != 0) = false := bne_eq_false_iff_eq.mpr c4
    clear c4
    replace H := Option.bind_eq_some_iff.mp H
    obtain ⟨t298, A50, H⟩ := H
    replace H : (if t298 = 0 then (if (l0.length : Int) = (l1.length : Int) then (some t298) else (some 2)) else (some t298)) = some r := H
    have A5 := Aside0.mk A50
    clear A50
    by_cases c6 : t298 = 0
    · rw [if_pos c6] at H
      have c6b0 : (t298 == 0) = true := beq_iff_eq.mpr c6
      have c6b1 : (t298 != 0) = false := bne_eq_false_iff_eq.mpr c6
      clear c6
      by_cases c7 : (l0.length : Int) = (l1.length : Int)
      · rw [if_pos c7] at H
        have c7b0 : ((l0.length : Int) == (l1.length : Int)) = true := beq_iff_eq.mpr c7
        have c7b1 : ((l0.length : Int) != (l1.length : Int)) = false := bne_eq_false_iff_eq.mpr c7
        have c7b2 : (l0.length == l1.length) = true := by first | simpa using c7 | (simp at c7 ⊢; omega)
        clear c7
        obtain rfl := Option.some.inj H
        go_enter Try.func68, Try.ntmps68
        go_wp2_with (first | ((with_reducible refine gate_callee (f := 19) rfl ?_); refine goesL_ (some 7) rfl rfl Try.func19 (by kernel_rfl) rfl #[.slice A0 l0.length c0] rfl (by (try simp only [List.map_toArray, List.map_cons, List.map_nil]); first | done | rfl | (simp only [List.length_drop, List.length_take]; rfl)) ?_; (with_reducible refine (pomaderef07_Diagram.calls k _ _ l0 t297 _ ?side1 ?side2 A3.out).mono ?_); (case side1 => repeat (first | exact HR0.out | (with_reducible refine Kd.C_alloc ?_ _) | (with_reducible refine Kd.C_drewN ?_ _) | (with_reducible refine Kd.C_drew ?_))); (case side2 => exact HC0.out); rintro e w' ⟨rfl, ⟨nd, rfl⟩⟩; refine ⟨_, rfl, ?_⟩) | ((with_reducible refine gate_callee (f := 19) rfl ?_); refine goesL_ (some 11) rfl rfl Try.func19 (by kernel_rfl) rfl #[.slice A1 l1.length c1] rfl (by (try simp only [List.map_toArray, List.map_cons, List.map_nil]); first | done | rfl | (simp only [List.length_drop, List.length_take]; rfl)) ?_; (with_reducible refine (pomaderef07_Diagram.calls k _ _ l1 t298 _ ?side1 ?side2 A5.out).mono ?_); (case side1 => repeat (first | exact HR1.out | (with_reducible refine Kd.C_alloc ?_ _) | (with_reducible refine Kd.C_drewN ?_ _) | (with_reducible refine Kd.C_drew ?_))); (case side2 => exact HC1.out); rintro e w' ⟨rfl, ⟨nd, rfl⟩⟩; refine ⟨_, rfl, ?_⟩))
        go_ret
        exact ⟨by first | rfl | (simp; done) | (simp [*]; done), by repeat (first | exact Drawn0.refl _ | apply Drawn0.step)⟩
      · rw [if_neg c7] at H
        have c7b0 : ((l0.length : Int) == (l1.length : Int)) = false := beq_eq_false_iff_ne.mpr c7
        have c7b1 : ((l0.length : Int) != (l1.length : Int)) = true := bne_iff_ne.mpr c7
        have c7b2 : (l0.length == l1.length) = false := by first | simpa using c7 | (simp at c7 ⊢; omega)
        obtain rfl := Option.some.inj H
        go_enter Try.func68, Try.ntmps68
        go_wp2_with (first | ((with_reducible refine gate_callee (f := 19) rfl ?_); refine goesL_ (some 7) rfl rfl Try.func19 (by kernel_rfl) rfl #[.slice A0 l0.length c0] rfl (by (try simp only [List.map_toArray, List.map_cons, List.map_nil]); first | done | rfl | (simp only [List.length_drop, List.length_take]; rfl)) ?_; (with_reducible refine (pomaderef07_Diagram.calls k _ _ l0 t297 _ ?side1 ?side2 A3.out).mono ?_); (case side1 => repeat (first | exact HR0.out | (with_reducible refine Kd.C_alloc ?_ _) | (with_reducible refine Kd.C_drewN ?_ _) | (with_reducible refine Kd.C_drew ?_))); (case side2 => exact HC0.out); rintro e w' ⟨rfl, ⟨nd, rfl⟩⟩; refine ⟨_, rfl, ?_⟩) | ((with_reducible refine gate_callee (f := 19) rfl ?_); refine goesL_ (some 11) rfl rfl Try.func19 (by kernel_rfl) rfl #[.slice A1 l1.length c1] rfl (by (try simp only [List.map_toArray, List.map_cons, List.map_nil]); first | done | rfl | (simp only [List.length_drop, List.length_take]; rfl)) ?_; (with_reducible refine (pomaderef07_Diagram.calls k _ _ l1 t298 _ ?side1 ?side2 A5.out).mono ?_); (case side1 => repeat (first | exact HR1.out | (with_reducible refine Kd.C_alloc ?_ _) | (with_reducible refine Kd.C_drewN ?_ _) | (with_reducible refine Kd.C_drew ?_))); (case side2 => exact HC1.out); rintro e w' ⟨rfl, ⟨nd, rfl⟩⟩; refine ⟨_, rfl, ?_⟩))
        go_ret
        exact ⟨by first | rfl | (simp; done) | (simp [*]; done), by repeat (first | exact Drawn0.refl _ | apply Drawn0.step)⟩
    · rw [if_neg c6] at H
      have c6b0 : (t298 == 0) = false := beq_eq_false_iff_ne.mpr c6
      have c6b1 : (t298 != 0) = true := bne_iff_ne.mpr c6
      obtain rfl := Option.some.inj H
      go_enter Try.func68, Try.ntmps68
      go_wp2_with (first | ((with_reducible refine gate_callee (f := 19) rfl ?_); refine goesL_ (some 7) rfl rfl Try.func19 (by kernel_rfl) rfl #[.slice A0 l0.length c0] rfl (by (try simp only [List.map_toArray, List.map_cons, List.map_nil]); first | done | rfl | (simp only [List.length_drop, List.length_take]; rfl)) ?_; (with_reducible refine (pomaderef07_Diagram.calls k _ _ l0 t297 _ ?side1 ?side2 A3.out).mono ?_); (case side1 => repeat (first | exact HR0.out | (with_reducible refine Kd.C_alloc ?_ _) | (with_reducible refine Kd.C_drewN ?_ _) | (with_reducible refine Kd.C_drew ?_))); (case side2 => exact HC0.out); rintro e w' ⟨rfl, ⟨nd, rfl⟩⟩; refine ⟨_, rfl, ?_⟩) | ((with_reducible refine gate_callee (f := 19) rfl ?_); refine goesL_ (some 11) rfl rfl Try.func19 (by kernel_rfl) rfl #[.slice A1 l1.length c1] rfl (by (try simp only [List.map_toArray, List.map_cons, List.map_nil]); first | done | rfl | (simp only [List.length_drop, List.length_take]; rfl)) ?_; (with_reducible refine (pomaderef07_Diagram.calls k _ _ l1 t298 _ ?side1 ?side2 A5.out).mono ?_); (case side1 => repeat (first | exact HR1.out | (with_reducible refine Kd.C_alloc ?_ _) | (with_reducible refine Kd.C_drewN ?_ _) | (with_reducible refine Kd.C_drew ?_))); (case side2 => exact HC1.out); rintro e w' ⟨rfl, ⟨nd, rfl⟩⟩; refine ⟨_, rfl, ?_⟩))
      go_ret
      exact ⟨by first | rfl | (simp; done) | (simp [*]; done), by repeat (first | exact Drawn0.refl _ | apply Drawn0.step)⟩
  · rw [if_neg c4] at H
    have c4b0 : (t297 == 0) = false := beq_eq_false_iff_ne.mpr c4
    have c4b1 : (t297 != 0) = true := bne_iff_ne.mpr c4
    obtain rfl := Option.some.inj H
    go_enter Try.func68, Try.ntmps68
    go_wp2_with (first | ((with_reducible refine gate_callee (f := 19) rfl ?_); refine goesL_ (some 7) rfl rfl Try.func19 (by kernel_rfl) rfl #[.slice A0 l0.length c0] rfl (by (try simp only [List.map_toArray, List.map_cons, List.map_nil]); first | done | rfl | (simp only [List.length_drop, List.length_take]; rfl)) ?_; (with_reducible refine (pomaderef07_Diagram.calls k _ _ l0 t297 _ ?side1 ?side2 A3.out).mono ?_); (case side1 => repeat (first | exact HR0.out | (with_reducible refine Kd.C_alloc ?_ _) | (with_reducible refine Kd.C_drewN ?_ _) | (with_reducible refine Kd.C_drew ?_))); (case side2 => exact HC0.out); rintro e w' ⟨rfl, ⟨nd, rfl⟩⟩; refine ⟨_, rfl, ?_⟩))
    go_ret
    exact ⟨by first | rfl | (simp; done) | (simp [*]; done), by repeat (first | exact Drawn0.refl _ | apply Drawn0.step)⟩
/-! ### pomaderef07_Product: function 33 -/
def pomaderef07_Product.f (k : Nat) (l0 : List Int) (l1 : List Int) : Option (List Int × Int × Int) := (pomaderef07_two.f k l0 l1).bind fun t299 => (if t299 = 0 then ((pomaderef07_product.f k l0 l1).bind fun bt300 => (some (bt300.1, bt300.2, 0))) else (some (([] : List Int), 0, t299)))
theorem pomaderef07_Product.mono : ∀ a0 a1 k, LeO (pomaderef07_Product.f k a0 a1) (pomaderef07_Product.f (k + 1) a0 a1) := by
  intro a0 a1 k
  unfold pomaderef07_Product.f
  repeat' first
      | (with_reducible exact pomaderef07_product.mono _ _ _)
      | (with_reducible exact pomaderef07_two.mono _ _ _)
      | (with_reducible exact LeO.refl _)
      | (with_reducible exact LeO.none _)
      | (with_reducible refine LeO.ite ?_ ?_)
      | (with_reducible refine LeO.bind ?_ (fun _ => ?_))
      | exact pomaderef07_product.mono _ _ _
      | exact pomaderef07_two.mono _ _ _
      | exact LeO.none _
      | refine LeO.ite ?_ ?_
      | refine LeO.bind ?_ (fun _ => ?_)
set_option maxHeartbeats 8000000 in
set_option maxRecDepth 100000 in
theorem pomaderef07_Product.calls (k : Nat) (A0 : Option Addr) (c0 : Nat) (l0 : List Int) (A1 : Option Addr) (c1 : Nat) (l1 : List Int) (r1 : List Int) (r2 : Int) (r3 : Int) (w : World) (hr0 : Kd.C (Kd.int .i64) w A0 l0.length l0) (hc0 : l0.length ≤ c0) (hr1 : Kd.C (Kd.int .i64) w A1 l1.length l1) (hc1 : l1.length ≤ c1) (h : pomaderef07_Product.f k l0 l1 = some (r1, r2, r3)) :
    Calls Try.prog 33 #[.slice A0 l0.length c0, .slice A1 l1.length c1] w fun e w' => ∃ v0_ : Value, e = .returned (.tuple #[v0_, .int .i64 r2, .int .i64 r3]) ∧ Kd.R (Kd.int .i64) 3 w' w.heap.size (fun _ => True) v0_ r1 ∧ Below w.heap.size w w' := by
  have HR0 := Aside0.mk hr0
  have HC0 := Aside0.mk hc0
  clear hr0 hc0
  have HR1 := Aside0.mk hr1
  have HC1 := Aside0.mk hc1
  clear hr1 hc1
  have HB := Aside0.mk (Below.refl w.heap.size w)
  have H : ((pomaderef07_two.f k l0 l1).bind fun t299 => (if t299 = 0 then ((pomaderef07_product.f k l0 l1).bind fun bt300 => (some (bt300.1, bt300.2, 0))) else (some (([] : List Int), 0, t299)))) = some (r1, r2, r3) := h
  clear h
  replace H := Option.bind_eq_some_iff.mp H
  obtain ⟨t299, A30, H⟩ := H
  replace H : (if t299 = 0 then ((pomaderef07_product.f k l0 l1).bind fun bt300 => (some (bt300.1, bt300.2, 0))) else (some (([] : List Int), 0, t299))) = some (r1, r2, r3) := H
  have A3 := Aside0.mk A30
  clear A30
  by_cases c4 : t299 = 0
  · rw [if_pos c4] at H
    have c4b0 : (t299 == 0) = true := beq_iff_eq.mpr c4
    have c4b1 : (t299 != 0) = false := bne_eq_false_iff_eq.mpr c4
    clear c4
    replace H := Option.bind_eq_some_iff.mp H
    obtain ⟨⟨t300, t301⟩, A50, H⟩ := H
    replace H : (some (t300, t301, 0)) = some (r1, r2, r3) := H
    have A5 := Aside0.mk A50
    clear A50
    simp only [Option.some.injEq, Prod.mk.injEq] at H
    obtain ⟨rfl, rfl, rfl⟩ := H
    go_enter Try.func33, Try.ntmps33
    go_wp2_with (first | ((with_reducible refine gate_callee (f := 68) rfl ?_); refine goesL_ (some 12) rfl rfl Try.func68 (by kernel_rfl) rfl #[.slice A0 l0.length c0, .slice A1 l1.length c1] rfl (by (try simp only [List.map_toArray, List.map_cons, List.map_nil]); first | done | rfl | (simp only [List.length_drop, List.length_take]; rfl)) ?_; (with_reducible refine (pomaderef07_two.calls k _ _ l0 _ _ l1 t299 _ ?side1 ?side2 ?side3 ?side4 A3.out).mono ?_); (case side1 => repeat (first | exact HR0.out | (with_reducible refine Kd.C_alloc ?_ _) | (with_reducible refine Kd.C_drewN ?_ _) | (with_reducible refine Kd.C_drew ?_))); (case side2 => exact HC0.out); (case side3 => repeat (first | exact HR1.out | (with_reducible refine Kd.C_alloc ?_ _) | (with_reducible refine Kd.C_drewN ?_ _) | (with_reducible refine Kd.C_drew ?_))); (case side4 => exact HC1.out); rintro e w' ⟨rfl, ⟨nd, rfl⟩⟩; refine ⟨_, rfl, ?_⟩) | ((with_reducible refine gate_callee (f := 58) rfl ?_); refine goesL_ (some 19) rfl rfl Try.func58 (by kernel_rfl) rfl #[.slice A0 l0.length c0, .slice A1 l1.length c1] rfl (by (try simp only [List.map_toArray, List.map_cons, List.map_nil]); first | done | rfl | (simp only [List.length_drop, List.length_take]; rfl)) ?_; (with_reducible refine (pomaderef07_product.calls k _ _ l0 _ _ l1 t300 t301 _ ?side1 ?side2 ?side3 ?side4 A5.out).mono ?_); (case side1 => repeat (first | exact HR0.out | (with_reducible refine Kd.C_alloc ?_ _) | (with_reducible refine Kd.C_drewN ?_ _) | (with_reducible refine Kd.C_drew ?_))); (case side2 => exact HC0.out); (case side3 => repeat (first | exact HR1.out | (with_reducible refine Kd.C_alloc ?_ _) | (with_reducible refine Kd.C_drewN ?_ _) | (with_reducible refine Kd.C_drew ?_))); (case side4 => exact HC1.out); rintro e w6 ⟨v302, rfl, ho0, hb⟩; refine ⟨_, rfl, ?_⟩; have n0_ := Aside0.mk (Kd.R_lower ho0 (below_size (by repeat (first | (with_reducible first | exact HB.out | apply below_alloc | apply pw_below_drewN | apply below_drew1) | exact HB.out)))); have n1_ := Aside0.mk (below_step (by repeat (first | (with_reducible first | exact HB.out | apply below_alloc | apply pw_below_drewN | apply below_drew1) | exact HB.out)) hb); clear HB; have HO303 := n0_; have HB := n1_; clear n0_ n1_; (try clear hb); (try clear hb2); (try clear hk); (try clear hi); (try clear ho0)))
    go_ret3
    exact ⟨_, by first | rfl | (simp [errW_none, errW_some] <;> rfl) | (simp [*, errW_none, errW_some] <;> rfl), by (with_reducible repeat (first | apply Kd.R_alloc | apply Kd.R_drewN | apply Kd.R_drew)); exact HO303.out, by repeat (first | (with_reducible first | exact HB.out | apply below_alloc | apply pw_below_drewN | apply below_drew1) | exact HB.out)⟩
  · rw [if_neg c4] at H
    have c4b0 : (t299 == 0) = false := beq_eq_false_iff_ne.mpr c4
    have c4b1 : (t299 != 0) = true := bne_iff_ne.mpr c4
    simp only [Option.some.injEq, Prod.mk.injEq] at H
    obtain ⟨rfl, rfl, rfl⟩ := H
    go_enter Try.func33, Try.ntmps33
    go_wp2_with (first | ((with_reducible refine gate_callee (f := 68) rfl ?_); refine goesL_ (some 12) rfl rfl Try.func68 (by kernel_rfl) rfl #[.slice A0 l0.length c0, .slice A1 l1.length c1] rfl (by (try simp only [List.map_toArray, List.map_cons, List.map_nil]); first | done | rfl | (simp only [List.length_drop, List.length_take]; rfl)) ?_; (with_reducible refine (pomaderef07_two.calls k _ _ l0 _ _ l1 t299 _ ?side1 ?side2 ?side3 ?side4 A3.out).mono ?_); (case side1 => repeat (first | exact HR0.out | (with_reducible refine Kd.C_alloc ?_ _) | (with_reducible refine Kd.C_drewN ?_ _) | (with_reducible refine Kd.C_drew ?_))); (case side2 => exact HC0.out); (case side3 => repeat (first | exact HR1.out | (with_reducible refine Kd.C_alloc ?_ _) | (with_reducible refine Kd.C_drewN ?_ _) | (with_reducible refine Kd.C_drew ?_))); (case side4 => exact HC1.out); rintro e w' ⟨rfl, ⟨nd, rfl⟩⟩; refine ⟨_, rfl, ?_⟩))
    go_ret3
    exact ⟨_, by first | rfl | (simp [errW_none, errW_some] <;> rfl) | (simp [*, errW_none, errW_some] <;> rfl), by first | exact Kd.R_nil _ _ _ _ _ | exact Kd.N_nil _ _ _ _ _ | exact Kd.V_nil _ _ _ _ _ | exact Kd.Q_nil _ _ _ _ _ | exact Kd.S_nil _ _ _ _ _, by repeat (first | (with_reducible first | exact HB.out | apply below_alloc | apply pw_below_drewN | apply below_drew1) | exact HB.out)⟩
end Go.Proofs.Ytjfkompfkgjdaaa.PC
end
section
namespace Go.Proofs.Ytjfkompfkgjdaaa.PC
open Go.RowKit Go.Proofs.YtjfkompfkgjdaaaW.PrintWords Go.Proofs.YtjfkompfkgjdaaaW.PrintLast Go.Proofs.YtjfkompfkgjdaaaW.PrintMore
attribute [local go_sem] max2_int min2_int max_two min_two max_three min_three max_four min_four   -- for this text's walks alone
set_option linter.unusedVariables false
set_option linter.unusedSimpArgs false
/-! ### pomaderef07_Power: function 39 -/
mutual
def pomaderef07_Power.l0 : Nat → List Int → List (List Int) → Option (Int × Int × Int)
  | 0, _, _ => none
  | k + 1, x0, x6 => if 0 ≤ (wrap64 ((x6.length : Int) - 1)) then (if (wrap64 ((x6.length : Int) - 1)) < (x6.length : Int) then ((pomaderef07_product.f k (rd_L3 x6 (wrap64 ((x6.length : Int) - 1))) x0).bind fun bt643 => (pomaderef07_Power.l1 k x0 x6 bt643.1 0)) else (none)) else (none)
def pomaderef07_Power.l1 : Nat → List Int → List (List Int) → List Int → Int → Option (Int × Int × Int)
  | 0, _, _, _, _ => none
  | k + 1, x0, x6, x7, x9 => if x9 < (x6.length : Int) then (if 0 ≤ x9 then ((pomaderef07_same.f k (rd_L3 x6 x9) x7).bind fun t648 => (if t648 = true then (some (wrap64 (x9 + 1), wrap64 ((x6.length : Int) + 1), 0)) else (pomaderef07_Power.l1 k x0 x6 x7 (wrap64 (x9 + 1))))) else (none)) else (if x6.length < 5864062014805 then (pomaderef07_Power.l0 k x0 (x6 ++ [x7])) else (none))
end
def pomaderef07_Power.f (k : Nat) (l0 : List Int) : Option (Int × Int × Int) := (pomaderef07_Diagram.f k l0).bind fun t638 => (if t638 = 0 then (pomaderef07_Power.l0 k l0 (([l0] : List (List Int)))) else (some (0, 0, t638)))
theorem pomaderef07_Power.mono_l : ∀ k, (∀ y0 y1, LeO (pomaderef07_Power.l0 k y0 y1) (pomaderef07_Power.l0 (k + 1) y0 y1)) ∧ (∀ y0 y1 y2 y3, LeO (pomaderef07_Power.l1 k y0 y1 y2 y3) (pomaderef07_Power.l1 (k + 1) y0 y1 y2 y3))
  | 0 => ⟨fun _ _ r h => by simp [pomaderef07_Power.l0] at h, fun _ _ _ _ r h => by simp [pomaderef07_Power.l1] at h⟩
  | k + 1 => by
    obtain ⟨ih0, ih1⟩ := pomaderef07_Power.mono_l k
    refine ⟨?_, ?_⟩
    · intro y0 y1
      unfold pomaderef07_Power.l0
      repeat' first
      | (with_reducible exact ih0 _ _)
      | (with_reducible exact ih1 _ _ _ _)
      | (with_reducible exact pomaderef07_Diagram.mono _ _)
      | (with_reducible exact pomaderef07_product.mono _ _ _)
      | (with_reducible exact pomaderef07_same.mono _ _ _)
      | (with_reducible exact LeO.refl _)
      | (with_reducible exact LeO.none _)
      | (with_reducible refine LeO.ite ?_ ?_)
      | (with_reducible refine LeO.bind ?_ (fun _ => ?_))
      | exact ih0 _ _
      | exact ih1 _ _ _ _
      | exact pomaderef07_Diagram.mono _ _
      | exact pomaderef07_product.mono _ _ _
      | exact pomaderef07_same.mono _ _ _
      | exact LeO.none _
      | refine LeO.ite ?_ ?_
      | refine LeO.bind ?_ (fun _ => ?_)
    · intro y0 y1 y2 y3
      unfold pomaderef07_Power.l1
      repeat' first
      | (with_reducible exact ih0 _ _)
      | (with_reducible exact ih1 _ _ _ _)
      | (with_reducible exact pomaderef07_Diagram.mono _ _)
      | (with_reducible exact pomaderef07_product.mono _ _ _)
      | (with_reducible exact pomaderef07_same.mono _ _ _)
      | (with_reducible exact LeO.refl _)
      | (with_reducible exact LeO.none _)
      | (with_reducible refine LeO.ite ?_ ?_)
      | (with_reducible refine LeO.bind ?_ (fun _ => ?_))
      | exact ih0 _ _
      | exact ih1 _ _ _ _
      | exact pomaderef07_Diagram.mono _ _
      | exact pomaderef07_product.mono _ _ _
      | exact pomaderef07_same.mono _ _ _
      | exact LeO.none _
      | refine LeO.ite ?_ ?_
      | refine LeO.bind ?_ (fun _ => ?_)
theorem pomaderef07_Power.mono : ∀ a0 k, LeO (pomaderef07_Power.f k a0) (pomaderef07_Power.f (k + 1) a0) := by
  intro a0 k
  obtain ⟨ih0, ih1⟩ := pomaderef07_Power.mono_l k
  unfold pomaderef07_Power.f
  repeat' first
      | (with_reducible exact ih0 _ _)
      | (with_reducible exact ih1 _ _ _ _)
      | (with_reducible exact pomaderef07_Diagram.mono _ _)
      | (with_reducible exact pomaderef07_product.mono _ _ _)
      | (with_reducible exact pomaderef07_same.mono _ _ _)
      | (with_reducible exact LeO.refl _)
      | (with_reducible exact LeO.none _)
      | (with_reducible refine LeO.ite ?_ ?_)
      | (with_reducible refine LeO.bind ?_ (fun _ => ?_))
      | exact ih0 _ _
      | exact ih1 _ _ _ _
      | exact pomaderef07_Diagram.mono _ _
      | exact pomaderef07_product.mono _ _ _
      | exact pomaderef07_same.mono _ _ _
      | exact LeO.none _
      | refine LeO.ite ?_ ?_
      | refine LeO.bind ?_ (fun _ => ?_)
set_option maxHeartbeats 8000000 in
set_option maxRecDepth 100000 in
theorem pomaderef07_Power.calls (k : Nat) (P0_ : Nat → Prop) (A0 : Option Addr) (c0 : Nat) (l0 : List Int) (r1 : Int) (r2 : Int) (r3 : Int) (w : World) (hs0 : Kd.V (Kd.int .i64) 3 w w.heap.size (fun k_ => P0_ k_) (.slice A0 l0.length c0) l0) (h : pomaderef07_Power.f k l0 = some (r1, r2, r3)) :
    Calls Try.prog 39 #[.slice A0 l0.length c0] w fun e w' => e = .returned (.tuple #[.int .i64 r1, .int .i64 r2, .int .i64 r3]) ∧ Below w.heap.size w w' := by
  have HO0 := Aside0.mk (show Kd.V (Kd.int .i64) 3 w w.heap.size (fun k_ => (P0_ k_ ∨ w.heap.size ≤ k_)) (.slice A0 l0.length c0) l0 from Kd.V_mono hs0 (fun k_ hk => .inl hk))
  have HB := Aside0.mk (Below.refl w.heap.size w)
  have H : ((pomaderef07_Diagram.f k l0).bind fun t638 => (if t638 = 0 then (pomaderef07_Power.l0 k l0 (([l0] : List (List Int)))) else (some (0, 0, t638)))) = some (r1, r2, r3) := h
  clear h
  replace H := Option.bind_eq_some_iff.mp H
  obtain ⟨t638, A20, H⟩ := H
  replace H : (if t638 = 0 then (pomaderef07_Power.l0 k l0 (([l0] : List (List Int)))) else (some (0, 0, t638))) = some (r1, r2, r3) := H
  have A2 := Aside0.mk A20
  clear A20
  by_cases c3 : t638 = 0
  · rw [if_pos c3] at H
    have c3b0 : (t638 == 0) = true := beq_iff_eq.mpr c3
    have c3b1 : (t638 != 0) = false := bne_eq_false_iff_eq.mpr c3
    clear c3
    obtain ⟨y639, hy639⟩ : ∃ y_ : List (List Int), y_ = (([l0] : List (List Int))) := ⟨_, rfl⟩
    replace H : (pomaderef07_Power.l0 k l0 y639) = some (r1, r2, r3) := by first | (rw [hy639]; with_reducible exact H) | (have H2_ := (Option.bind_some _ _).symm.trans H; rw [hy639]; with_reducible exact H2_) | (have H2_ := (Option.bind_some _ _).symm.trans H; with_reducible exact H2_) | with_reducible exact H | (rw [hy639]; exact H) | exact H
    have Ny639 := Aside0.mk hy639
    clear hy639
    have H' := Aside0.mk H
    clear H
    go_enter Try.func39, Try.ntmps39
    go_wp2_with (first | ((with_reducible refine gate_callee (f := 19) rfl ?_); refine goesL_ (some 11) rfl rfl Try.func19 (by kernel_rfl) rfl #[.slice A0 l0.length c0] rfl (by (try simp only [List.map_toArray, List.map_cons, List.map_nil]); first | done | rfl | (simp only [List.length_drop, List.length_take]; rfl)) ?_; (with_reducible refine (pomaderef07_Diagram.calls k _ _ l0 t638 _ ?side1 ?side2 A2.out).mono ?_); (case side1 => repeat (first | exact (Kd.V_reads' HO0.out).2.2 | (with_reducible refine Kd.C_alloc ?_ _) | (with_reducible refine Kd.C_drewN ?_ _) | (with_reducible refine Kd.C_drew ?_))); (case side2 => exact (Kd.V_reads' HO0.out).2.1); rintro e w' ⟨rfl, ⟨nd, rfl⟩⟩; refine ⟨_, rfl, ?_⟩) | ((with_reducible refine gate_dst (N := 16) rfl ?_); refine Kd.N_lit (Kd.slice 3 (Kd.int .i64)) _ 22 ?hg (N' := 16) ?hd (xs := ([l0] : List (List Int))) (inner := [.slice A0 l0.length c0]) (ok := (fun k_ => (P0_ k_ ∨ w.heap.size ≤ k_))) (okp := (fun k_ => (P0_ k_ ∨ w.heap.size ≤ k_))) ?hr ?hp (fun _ hk => hk) ((show ∀ k_, w.heap.size ≤ k_ → (fun k_ => (P0_ k_ ∨ w.heap.size ≤ k_)) k_ from fun k_ hk => (.inr (Nat.le_trans (below_size (by repeat (first | (with_reducible first | exact HB.out | apply below_alloc | apply pw_below_drewN | apply below_drew1) | exact HB.out))) hk))) _ (Nat.le_refl _)) (Below.refl _ _) (Nat.le_refl _) (by simp) ?_; (case hd => rfl); (case hg => rfl); (case hr => first | (go_simp; done) | (go_simp; rfl)); (case hp => exact (Reps.one (show Kd.FK (Kd.slice 3 (Kd.int .i64)) _ _ l0 [.slice A0 l0.length c0] from (Kd.FK_slice_mk (Kd.V_reads' (Kd.V_mono (ok' := (fun k_ => (P0_ k_ ∨ w.heap.size ≤ k_))) (HO0.out) (fun k_ hk => hk))).2.1 (Kd.V_F (Kd.V_mono (ok' := (fun k_ => (P0_ k_ ∨ w.heap.size ≤ k_))) (by (with_reducible repeat (first | apply Kd.V_alloc | apply Kd.V_drewN | apply Kd.V_drew)); exact HO0.out) (fun k_ hk => hk))))) (Reps.none _ _))); intro v640 w4 ho5 hb hg_ hnew_; clear hg_ hnew_; (first | rw [← Ny639.out] at ho5 | (simp only [Int.reduceToNat] at ho5; rw [← Ny639.out] at ho5)); have n0_ := Aside0.mk (Kd.V_elder' (by (with_reducible repeat (first | apply Kd.V_alloc | apply Kd.V_drewN | apply Kd.V_drew)); exact HO0.out) (Kd.N_base ho5) hb); have n1_ := Aside0.mk (Kd.N_lower ho5 (below_size (by repeat (first | (with_reducible first | exact HB.out | apply below_alloc | apply pw_below_drewN | apply below_drew1) | exact HB.out)))); have n2_ := Aside0.mk (below_step (by repeat (first | (with_reducible first | exact HB.out | apply below_alloc | apply pw_below_drewN | apply below_drew1) | exact HB.out)) hb); clear HO0; clear HB; have HO0 := n0_; have HO641 := n1_; have HB := n2_; clear n0_ n1_ n2_; clear hb ho5))
    go_loopg [6] k (fun kq v6 w' => ∃ (x6_1 : List (List Int)), Aside0 (pomaderef07_Power.l0 kq l0 x6_1 = some (r1, r2, r3)) ∧ Aside0 (kq ≤ k) ∧ Aside0 (Kd.V (Kd.int .i64) 3 w' w.heap.size (fun k_ => (P0_ k_ ∨ w.heap.size ≤ k_) ∧ some k_ ≠ (v6 : Value).ownBlock) (.slice A0 l0.length c0) l0) ∧ Aside0 (Kd.N (Kd.slice 3 (Kd.int .i64)) 22 w' w.heap.size (fun k_ => (P0_ k_ ∨ w.heap.size ≤ k_)) v6 x6_1) ∧ Aside0 (Below w.heap.size w w'))
    case atStart => exact ⟨(y639), H', ⟨Nat.le_refl _⟩, ⟨by (with_reducible repeat (first | apply Kd.V_alloc | apply Kd.V_drewN | apply Kd.V_drew)); exact HO0.out⟩, ⟨by (with_reducible repeat (first | apply Kd.N_alloc | apply Kd.N_drewN | apply Kd.N_drew)); exact HO641.out⟩, ⟨by repeat (first | (with_reducible first | exact HB.out | apply below_alloc | apply pw_below_drewN | apply below_drew1) | exact HB.out)⟩⟩
    case round =>
      clear H'
      try clear c1
      try clear p2
      try clear c3
      try clear c3b0
      try clear c3b1
      obtain ⟨x6_1, HA, HK1, HO_0, HO_6, HB⟩ := hrel
      cases gk with
      | zero => exact absurd HA.out (by simp [pomaderef07_Power.l0])
      | succ k1 =>
        have H := HA.out
        clear HA
        simp only [pomaderef07_Power.l0] at H
        obtain ⟨ji6, hji6⟩ : ∃ j_ : Int, (wrap64 ((x6_1.length : Int) - 1)) = j_ := ⟨_, rfl⟩
        replace H : (if 0 ≤ (ji6) then (if (ji6) < (x6_1.length : Int) then ((pomaderef07_product.f k1 (rd_L3 x6_1 (ji6)) l0).bind fun bt643 => (pomaderef07_Power.l1 k1 l0 x6_1 bt643.1 0)) else (none)) else (none)) = some (r1, r2, r3) := by first | (rw [hji6] at H; exact H) | (simp only [hji6] at H ⊢; exact H)
        have hji6w : (IntKind.i64.wrap ((x6_1.length : Int) - 1)) = ji6 := (i64_w _).trans hji6
        by_cases c7 : 0 ≤ (ji6)
        · rw [if_pos c7] at H
          have c7b0 : decide (0 ≤ (ji6)) = true := decide_eq_true c7
          clear c7
          by_cases c8 : (ji6) < (x6_1.length : Int)
          · rw [if_pos c8] at H
            have c8b0 : decide ((ji6) < (x6_1.length : Int)) = true := decide_eq_true c8
            clear c8
            replace H := Option.bind_eq_some_iff.mp H
            obtain ⟨⟨t643, t644⟩, A90, H⟩ := H
            replace H : (pomaderef07_Power.l1 k1 l0 x6_1 t643 0) = some (r1, r2, r3) := H
            have A9 := Aside0.mk A90
            clear A90
            have H' := Aside0.mk H
            clear H
            obtain ⟨Ao10, co10, eo10⟩ := Kd.N_slice HO_6.out
            subst eo10
            have p642 : 0 ≤ ((ji6) : Int) := of_decide_eq_true (by first | (with_reducible assumption) | assumption)
            have q642 : (ji6) < (x6_1.length : Int) := of_decide_eq_true (by first | (with_reducible assumption) | assumption)
            obtain ⟨ad642, A642_0, c642_0, e642, hx642_0, hl642_0, hi642_0⟩ := at_L3 (Kd.N_reads' HO_6.out).2.2 (ji6) p642 q642
            cases e642
            obtain ⟨ce642, hce642, hMe642, hcc642⟩ := Kd.N_get HO_6.out [] (ji6) p642 (by first | exact q642 | exact of_decide_eq_true (by first | (with_reducible assumption) | assumption) | (have e_ := (Kd.N_reads' HO_6.out).1; omega))
            obtain ⟨ua642_0, uc642_0, rfl, ul642_0, ge642_0⟩ := Kd.FK_slice_open hMe642
            have hv642_0 := hcc642 0 _ rfl
            rw [Nat.add_zero, show ((Kd.slice 3 (Kd.int .i64))).sz = 1 from rfl, Nat.mul_one] at hv642_0
            replace hv642_0 := Option.some.inj (hv642_0.symm.trans hx642_0)
            injection hv642_0 with hva_ hvn_ hvc_
            rw [hva_] at ge642_0
            rw [hvc_] at ul642_0
            have HL642_0 := Aside0.mk (show Kd.V (Kd.int .i64) 3 _ w.heap.size _ _ (rd_L3 x6_1 (ji6)) from Kd.V_mk ul642_0 ge642_0)
            clear hva_ hvn_ hvc_ ge642_0 ul642_0
            clear hcc642 hce642
            have HR642_0 := Aside0.mk hi642_0
            have HC642_0 := Aside0.mk hl642_0
            clear hi642_0 hl642_0
            replace p642 := eq_true p642
            replace q642 := eq_true q642
            go_wp2_with (first | ((with_reducible refine gate_callee (f := 58) rfl ?_); refine goesL_ (some 25) rfl rfl Try.func58 (by kernel_rfl) rfl #[.slice A642_0 (rd_L3 x6_1 (ji6)).length c642_0, .slice A0 l0.length c0] rfl (by (try simp only [List.map_toArray, List.map_cons, List.map_nil]); first | done | (simp only [hji6]; rfl) | rfl | (simp only [List.length_drop, List.length_take]; rfl)) ?_; (with_reducible refine (pomaderef07_product.calls k1 _ _ (rd_L3 x6_1 (ji6)) _ _ l0 t643 t644 _ ?side1 ?side2 ?side3 ?side4 A9.out).mono ?_); (case side1 => repeat (first | exact (by repeat (first | (with_reducible exact HR642_0.out) | (with_reducible refine Kd.C_alloc ?_ _) | (with_reducible refine Kd.C_drewN ?_ _) | (with_reducible refine Kd.C_drew ?_) | exact HR642_0.out)) | (with_reducible refine Kd.C_alloc ?_ _) | (with_reducible refine Kd.C_drewN ?_ _) | (with_reducible refine Kd.C_drew ?_))); (case side2 => exact HC642_0.out); (case side3 => repeat (first | exact (Kd.V_reads' HO_0.out).2.2 | (with_reducible refine Kd.C_alloc ?_ _) | (with_reducible refine Kd.C_drewN ?_ _) | (with_reducible refine Kd.C_drew ?_))); (case side4 => exact (Kd.V_reads' HO_0.out).2.1); rintro e w11 ⟨v645, rfl, ho0, hb⟩; refine ⟨_, rfl, ?_⟩; have n0_ := Aside0.mk (Kd.V_elder' (by (with_reducible repeat (first | apply Kd.V_alloc | apply Kd.V_drewN | apply Kd.V_drew)); exact HO_0.out) (Kd.R_base ho0) hb); have n1_ := Aside0.mk (Kd.N_elder' (by (with_reducible repeat (first | apply Kd.N_alloc | apply Kd.N_drewN | apply Kd.N_drew)); exact HO_6.out) (Kd.R_base ho0) hb); have n2_ := Aside0.mk (Kd.V_elder' (by (with_reducible repeat (first | apply Kd.V_alloc | apply Kd.V_drewN | apply Kd.V_drew)); exact HL642_0.out) (Kd.R_base ho0) hb); have n3_ := Aside0.mk (Kd.R_lower (Kd.R_newM (M := fun k_ => (w.heap.size ≤ k_)) ho0 (below_size (by repeat (first | (with_reducible first | exact HB.out | apply below_alloc | apply pw_below_drewN | apply below_drew1) | exact HB.out))) (fun k_ h_ => h_)) (below_size (by repeat (first | (with_reducible first | exact HB.out | apply below_alloc | apply pw_below_drewN | apply below_drew1) | exact HB.out)))); have n4_ := Aside0.mk (Kd.C_below (by repeat (first | (with_reducible exact HR642_0.out) | (with_reducible refine Kd.C_alloc ?_ _) | (with_reducible refine Kd.C_drewN ?_ _) | (with_reducible refine Kd.C_drew ?_) | exact HR642_0.out)) hb); have n5_ := Aside0.mk (below_step (by repeat (first | (with_reducible first | exact HB.out | apply below_alloc | apply pw_below_drewN | apply below_drew1) | exact HB.out)) hb); clear HO_0; clear HO_6; clear HL642_0; clear HR642_0; clear HB; have HO_0 := n0_; have HO_6 := n1_; have HL642_0 := n2_; have HO646 := n3_; have HR642_0 := n4_; have HB := n5_; clear n0_ n1_ n2_ n3_ n4_ n5_; (try clear hb); (try clear hb2); (try clear hk); (try clear hi); (try clear ho0)))
            go_loopg [9] k1 (fun kq v9 w' => ∃ (x9_2 : Int), v9 = .int .i64 x9_2 ∧ Aside0 (pomaderef07_Power.l1 kq l0 x6_1 t643 x9_2 = some (r1, r2, r3)) ∧ Aside0 (kq ≤ k1) ∧ Aside0 (Kd.V (Kd.int .i64) 3 w' w.heap.size (fun k_ => (P0_ k_ ∨ w.heap.size ≤ k_) ∧ some k_ ≠ ((.slice (some ad642) x6_1.length co10) : Value).ownBlock ∧ some k_ ≠ (v645 : Value).ownBlock) (.slice A0 l0.length c0) l0) ∧ Aside0 (Kd.N (Kd.slice 3 (Kd.int .i64)) 22 w' w.heap.size (fun k_ => (P0_ k_ ∨ w.heap.size ≤ k_) ∧ some k_ ≠ (v645 : Value).ownBlock) (.slice (some ad642) x6_1.length co10) x6_1) ∧ Aside0 (Kd.R (Kd.int .i64) 3 w' w.heap.size (fun k_ => (w.heap.size ≤ k_)) v645 t643) ∧ Aside0 (Kd.C (Kd.int .i64) w' A642_0 (rd_L3 x6_1 (ji6)).length (rd_L3 x6_1 (ji6))) ∧ Aside0 (Below w.heap.size w w'))
            case atStart => exact ⟨(0), (by first | rfl | (simp; done) | (simp [*]; done)), H', ⟨Nat.le_refl _⟩, ⟨by (with_reducible repeat (first | apply Kd.V_alloc | apply Kd.V_drewN | apply Kd.V_drew)); exact Kd.V_mono HO_0.out (fun _ hk => ⟨hk.1.1, ⟨hk.1.2, hk.2⟩⟩)⟩, ⟨by (with_reducible repeat (first | apply Kd.N_alloc | apply Kd.N_drewN | apply Kd.N_drew)); exact HO_6.out⟩, ⟨by (with_reducible repeat (first | apply Kd.R_alloc | apply Kd.R_drewN | apply Kd.R_drew)); exact Kd.R_mono HO646.out (fun _ hk => hk.1)⟩, ⟨by repeat (first | (with_reducible exact HR642_0.out) | (with_reducible refine Kd.C_alloc ?_ _) | (with_reducible refine Kd.C_drewN ?_ _) | (with_reducible refine Kd.C_drew ?_) | exact HR642_0.out)⟩, ⟨by repeat (first | (with_reducible first | exact HB.out | apply below_alloc | apply pw_below_drewN | apply below_drew1) | exact HB.out)⟩⟩
            case round =>
              clear H'
              try clear c1
              try clear p2
              try clear c3
              try clear c3b0
              try clear c3b1
              try clear c5
              try clear c6
              try clear p6
              try clear q6
              try clear hx6
              try clear c7
              try clear c7b0
              try clear c8
              try clear c8b0
              try clear hx642_0
              try clear p2
              try clear p642
              try clear q642
              obtain ⟨x9_2, rfl, HA, HK2, HO_0, HO_6, HO_7, HR642_0, HB⟩ := hrel
              cases gk with
              | zero => exact absurd HA.out (by simp [pomaderef07_Power.l1])
              | succ k2 =>
                have H := HA.out
                clear HA
                simp only [pomaderef07_Power.l1] at H
                by_cases c12 : x9_2 < (x6_1.length : Int)
                · rw [if_pos c12] at H
                  have c12b0 : decide (x9_2 < (x6_1.length : Int)) = true := decide_eq_true c12
                  clear c12
                  by_cases c13 : 0 ≤ x9_2
                  · rw [if_pos c13] at H
                    have c13b0 : decide (0 ≤ x9_2) = true := decide_eq_true c13
                    clear c13
                    replace H := Option.bind_eq_some_iff.mp H
                    obtain ⟨t648, A140, H⟩ := H
                    replace H : (if t648 = true then (some (wrap64 (x9_2 + 1), wrap64 ((x6_1.length : Int) + 1), 0)) else (pomaderef07_Power.l1 k2 l0 x6_1 t643 (wrap64 (x9_2 + 1)))) = some (r1, r2, r3) := H
                    have A14 := Aside0.mk A140
                    clear A140
                    by_cases c15 : t648 = true
                    · subst c15
                      have H1 : (some (wrap64 (x9_2 + 1), wrap64 ((x6_1.length : Int) + 1), 0)) = some (r1, r2, r3) := by rw [if_pos rfl] at H; exact H
                      clear H
                      have H := H1
                      clear H1
                      simp only [Option.some.injEq, Prod.mk.injEq] at H
                      obtain ⟨rfl, rfl, rfl⟩ := H
                      have p647 : 0 ≤ (x9_2 : Int) := of_decide_eq_true (by first | (with_reducible assumption) | assumption)
                      have q647 : x9_2 < (x6_1.length : Int) := of_decide_eq_true (by first | (with_reducible assumption) | assumption)
                      obtain ⟨ad647, A647_0, c647_0, e647, hx647_0, hl647_0, hi647_0⟩ := at_L3 (Kd.N_reads' HO_6.out).2.2 x9_2 p647 q647
                      obtain rfl : ad642 = ad647 := (by injection e647)
                      obtain ⟨ce647, hce647, hMe647, hcc647⟩ := Kd.N_get HO_6.out [] x9_2 p647 (by first | exact q647 | exact of_decide_eq_true (by first | (with_reducible assumption) | assumption) | (have e_ := (Kd.N_reads' HO_6.out).1; omega))
                      obtain ⟨ua647_0, uc647_0, rfl, ul647_0, ge647_0⟩ := Kd.FK_slice_open hMe647
                      have hv647_0 := hcc647 0 _ rfl
                      rw [Nat.add_zero, show ((Kd.slice 3 (Kd.int .i64))).sz = 1 from rfl, Nat.mul_one] at hv647_0
                      replace hv647_0 := Option.some.inj (hv647_0.symm.trans hx647_0)
                      injection hv647_0 with hva_ hvn_ hvc_
                      rw [hva_] at ge647_0
                      rw [hvc_] at ul647_0
                      have HL647_0 := Aside0.mk (show Kd.V (Kd.int .i64) 3 _ w.heap.size _ _ (rd_L3 x6_1 x9_2) from Kd.V_mk ul647_0 ge647_0)
                      clear hva_ hvn_ hvc_ ge647_0 ul647_0
                      clear hcc647 hce647
                      have HR647_0 := Aside0.mk hi647_0
                      have HC647_0 := Aside0.mk hl647_0
                      clear hi647_0 hl647_0
                      replace p647 := eq_true p647
                      replace q647 := eq_true q647
                      obtain ⟨Ao16, co16, eo16⟩ := Kd.R_slice HO_7.out
                      subst eo16
                      go_wp2_with (first | ((with_reducible refine gate_callee (f := 57) rfl ?_); refine goesL_ (some 39) rfl rfl Try.func57 (by kernel_rfl) rfl #[.slice A647_0 (rd_L3 x6_1 x9_2).length c647_0, .slice Ao16 t643.length co16] rfl (by (try simp only [List.map_toArray, List.map_cons, List.map_nil]); first | done | rfl | (simp only [List.length_drop, List.length_take]; rfl)) ?_; (with_reducible refine (pomaderef07_same.calls k2 _ _ (rd_L3 x6_1 x9_2) _ _ t643 true _ ?side1 ?side2 ?side3 ?side4 A14.out).mono ?_); (case side1 => repeat (first | exact (by repeat (first | (with_reducible exact HR647_0.out) | (with_reducible refine Kd.C_alloc ?_ _) | (with_reducible refine Kd.C_drewN ?_ _) | (with_reducible refine Kd.C_drew ?_) | exact HR647_0.out)) | (with_reducible refine Kd.C_alloc ?_ _) | (with_reducible refine Kd.C_drewN ?_ _) | (with_reducible refine Kd.C_drew ?_))); (case side2 => exact HC647_0.out); (case side3 => repeat (first | exact (Kd.R_reads' HO_7.out).2.2 | (with_reducible refine Kd.C_alloc ?_ _) | (with_reducible refine Kd.C_drewN ?_ _) | (with_reducible refine Kd.C_drew ?_))); (case side4 => exact (Kd.R_reads' HO_7.out).2.1); rintro e w' ⟨rfl, ⟨nd, rfl⟩⟩; refine ⟨_, rfl, ?_⟩))
                      go_ret3
                      exact ⟨by first | rfl | (simp [errW_none, errW_some] <;> rfl) | (simp only [← hji6]; first | rfl | (simp [errW_none, errW_some] <;> rfl)) | (simp [*, errW_none, errW_some] <;> rfl), by repeat (first | (with_reducible first | exact HB.out | apply below_alloc | apply pw_below_drewN | apply below_drew1) | exact HB.out)⟩
                    · replace c15 := Bool.eq_false_iff.mpr c15
                      subst c15
                      have H1 : (pomaderef07_Power.l1 k2 l0 x6_1 t643 (wrap64 (x9_2 + 1))) = some (r1, r2, r3) := by rw [if_neg (show ¬ (false = true) by decide)] at H; exact H
                      clear H
                      have H := H1
                      clear H1
                      have H' := Aside0.mk H
                      clear H
                      have p647 : 0 ≤ (x9_2 : Int) := of_decide_eq_true (by first | (with_reducible assumption) | assumption)
                      have q647 : x9_2 < (x6_1.length : Int) := of_decide_eq_true (by first | (with_reducible assumption) | assumption)
                      obtain ⟨ad647, A647_0, c647_0, e647, hx647_0, hl647_0, hi647_0⟩ := at_L3 (Kd.N_reads' HO_6.out).2.2 x9_2 p647 q647
                      obtain rfl : ad642 = ad647 := (by injection e647)
                      obtain ⟨ce647, hce647, hMe647, hcc647⟩ := Kd.N_get HO_6.out [] x9_2 p647 (by first | exact q647 | exact of_decide_eq_true (by first | (with_reducible assumption) | assumption) | (have e_ := (Kd.N_reads' HO_6.out).1; omega))
                      obtain ⟨ua647_0, uc647_0, rfl, ul647_0, ge647_0⟩ := Kd.FK_slice_open hMe647
                      have hv647_0 := hcc647 0 _ rfl
                      rw [Nat.add_zero, show ((Kd.slice 3 (Kd.int .i64))).sz = 1 from rfl, Nat.mul_one] at hv647_0
                      replace hv647_0 := Option.some.inj (hv647_0.symm.trans hx647_0)
                      injection hv647_0 with hva_ hvn_ hvc_
                      rw [hva_] at ge647_0
                      rw [hvc_] at ul647_0
                      have HL647_0 := Aside0.mk (show Kd.V (Kd.int .i64) 3 _ w.heap.size _ _ (rd_L3 x6_1 x9_2) from Kd.V_mk ul647_0 ge647_0)
                      clear hva_ hvn_ hvc_ ge647_0 ul647_0
                      clear hcc647 hce647
                      have HR647_0 := Aside0.mk hi647_0
                      have HC647_0 := Aside0.mk hl647_0
                      clear hi647_0 hl647_0
                      replace p647 := eq_true p647
                      replace q647 := eq_true q647
                      obtain ⟨Ao17, co17, eo17⟩ := Kd.R_slice HO_7.out
                      subst eo17
                      go_wp2_with (first | ((with_reducible refine gate_callee (f := 57) rfl ?_); refine goesL_ (some 39) rfl rfl Try.func57 (by kernel_rfl) rfl #[.slice A647_0 (rd_L3 x6_1 x9_2).length c647_0, .slice Ao17 t643.length co17] rfl (by (try simp only [List.map_toArray, List.map_cons, List.map_nil]); first | done | rfl | (simp only [List.length_drop, List.length_take]; rfl)) ?_; (with_reducible refine (pomaderef07_same.calls k2 _ _ (rd_L3 x6_1 x9_2) _ _ t643 false _ ?side1 ?side2 ?side3 ?side4 A14.out).mono ?_); (case side1 => repeat (first | exact (by repeat (first | (with_reducible exact HR647_0.out) | (with_reducible refine Kd.C_alloc ?_ _) | (with_reducible refine Kd.C_drewN ?_ _) | (with_reducible refine Kd.C_drew ?_) | exact HR647_0.out)) | (with_reducible refine Kd.C_alloc ?_ _) | (with_reducible refine Kd.C_drewN ?_ _) | (with_reducible refine Kd.C_drew ?_))); (case side2 => exact HC647_0.out); (case side3 => repeat (first | exact (Kd.R_reads' HO_7.out).2.2 | (with_reducible refine Kd.C_alloc ?_ _) | (with_reducible refine Kd.C_drewN ?_ _) | (with_reducible refine Kd.C_drew ?_))); (case side4 => exact (Kd.R_reads' HO_7.out).2.1); rintro e w' ⟨rfl, ⟨nd, rfl⟩⟩; refine ⟨_, rfl, ?_⟩))
                      go_roundg k2
                      case measure => have := HK1.out; have := HK2.out; omega
                      case rel => exact ⟨(wrap64 (x9_2 + 1)), (by first | rfl | (simp; done) | (simp [*]; done)), H', ⟨by have := HK1.out; have := HK2.out; omega⟩, ⟨by (with_reducible repeat (first | apply Kd.V_alloc | apply Kd.V_drewN | apply Kd.V_drew)); exact HO_0.out⟩, ⟨by (with_reducible repeat (first | apply Kd.N_alloc | apply Kd.N_drewN | apply Kd.N_drew)); exact HO_6.out⟩, ⟨by (with_reducible repeat (first | apply Kd.R_alloc | apply Kd.R_drewN | apply Kd.R_drew)); exact HO_7.out⟩, ⟨by repeat (first | (with_reducible exact HR642_0.out) | (with_reducible refine Kd.C_alloc ?_ _) | (with_reducible refine Kd.C_drewN ?_ _) | (with_reducible refine Kd.C_drew ?_) | exact HR642_0.out)⟩, ⟨by repeat (first | (with_reducible first | exact HB.out | apply below_alloc | apply pw_below_drewN | apply below_drew1) | exact HB.out)⟩⟩
                  · rw [if_neg c13] at H
                    exact absurd H (by simp)
                · rw [if_neg c12] at H
                  have c12b0 : decide (x9_2 < (x6_1.length : Int)) = false := decide_eq_false c12
                  clear c12
                  by_cases c18 : x6_1.length < 5864062014805
                  · rw [if_pos c18] at H
                    have LMc18 := Aside0.mk c18
                    clear c18
                    obtain ⟨y649, hy649⟩ : ∃ y_ : List (List Int), y_ = (x6_1 ++ [t643]) := ⟨_, rfl⟩
                    replace H : (pomaderef07_Power.l0 k2 l0 y649) = some (r1, r2, r3) := by first | (rw [hy649]; with_reducible exact H) | (have H2_ := (Option.bind_some _ _).symm.trans H; rw [hy649]; with_reducible exact H2_) | (have H2_ := (Option.bind_some _ _).symm.trans H; with_reducible exact H2_) | with_reducible exact H | (rw [hy649]; exact H) | exact H
                    have Ny649 := Aside0.mk hy649
                    clear hy649
                    have H' := Aside0.mk H
                    clear H
                    obtain ⟨Ao20, co20, eo20⟩ := Kd.R_slice HO_7.out
                    subst eo20
                    go_wp2_with (first | ((with_reducible refine gate_builtin (b := .append) (xs := #[.tmp 45, .tmp 47]) rfl ?_); at_builtin; refine Kd.N_append (Kd.slice 3 (Kd.int .i64)) (w0 := w) w.heap.size rfl (.tmp 45) (.tmp 47) 62 22 (.slice none 0 0) 24 rfl Try.underlying62 info22 rfl (by decide) (by omega) (.slice (some ad642) x6_1.length co10) x6_1 t643 [.slice Ao20 t643.length co20] (fun k_ => (P0_ k_ ∨ w.heap.size ≤ k_)) (fun k_ => ((fun k_ => (P0_ k_ ∨ w.heap.size ≤ k_))) k_ ∧ some k_ ≠ (.slice (some ad642) x6_1.length co10 : Value).ownBlock) rfl rfl ?aP (fun _ hk => hk) ?aF ?aO ?aB ?aS ?aL ?_; (case aP => exact (Kd.FK_slice_mk (Kd.R_reads' (Kd.R_mono (ok' := (fun k_ => ((fun k_ => (P0_ k_ ∨ w.heap.size ≤ k_))) k_ ∧ some k_ ≠ (.slice (some ad642) x6_1.length co10 : Value).ownBlock)) (Kd.R_apart' (HO_7.out) (Kd.N_typed HO_6.out) (by decide)) (fun k_ hk => ⟨(.inr (hk.1)), hk.2⟩))).2.1 (Kd.R_F (Kd.R_mono (ok' := (fun k_ => ((fun k_ => (P0_ k_ ∨ w.heap.size ≤ k_))) k_ ∧ some k_ ≠ (.slice (some ad642) x6_1.length co10 : Value).ownBlock)) (Kd.R_apart' (HO_7.out) (Kd.N_typed HO_6.out) (by decide)) (fun k_ hk => ⟨(.inr (hk.1)), hk.2⟩))))); (case aB => exact (by repeat (first | (with_reducible first | exact HB.out | apply below_alloc | apply pw_below_drewN | apply below_drew1) | exact HB.out))); (case aF => exact (fun k_ hk => (.inr (Nat.le_trans (below_size (by repeat (first | (with_reducible first | exact HB.out | apply below_alloc | apply pw_below_drewN | apply below_drew1) | exact HB.out))) hk)))); (case aO => exact (by (with_reducible repeat (first | apply Kd.N_alloc | apply Kd.N_drewN | apply Kd.N_drew)); exact Kd.N_mono HO_6.out (fun _ hk => hk.1))); (case aS => exact (below_size (by repeat (first | (with_reducible first | exact HB.out | apply below_alloc | apply pw_below_drewN | apply below_drew1) | exact HB.out)))); (case aL => have := LMc18.out; omega); intro v650 w19 ho hb hg hat; rw [← Ny649.out] at ho; have n0_ := Aside0.mk (Kd.V_afterv (ok := (fun k_ => (P0_ k_ ∨ w.heap.size ≤ k_) ∧ some k_ ≠ (.slice Ao20 t643.length co20 : Value).ownBlock)) (by (with_reducible repeat (first | apply Kd.V_alloc | apply Kd.V_drewN | apply Kd.V_drew)); exact Kd.V_mono HO_0.out (fun _ hk => ⟨⟨hk.1, hk.2.2⟩, hk.2.1⟩)) hg hat); have n1_ := Aside0.mk (hb); have n2_ := Aside0.mk (ho); clear HO_0; clear HB; clear HO_6; clear HO_7; have HO_0 := n0_; have HB := n1_; have HO651 := n2_; clear n0_ n1_ n2_; clear ho hb hg hat))
                    go_roundg k2
                    case measure => have := HK1.out; have := HK2.out; omega
                    case rel => exact ⟨(y649), H', ⟨by have := HK1.out; have := HK2.out; omega⟩, ⟨by (with_reducible repeat (first | apply Kd.V_alloc | apply Kd.V_drewN | apply Kd.V_drew)); exact Kd.V_mono HO_0.out (fun _ hk => ⟨hk.1.1, hk.2⟩)⟩, ⟨by (with_reducible repeat (first | apply Kd.N_alloc | apply Kd.N_drewN | apply Kd.N_drew)); exact HO651.out⟩, ⟨by repeat (first | (with_reducible first | exact HB.out | apply below_alloc | apply pw_below_drewN | apply below_drew1) | exact HB.out)⟩⟩
                  · rw [if_neg c18] at H
                    exact absurd H (by simp)
          · rw [if_neg c8] at H
            exact absurd H (by simp)
        · rw [if_neg c7] at H
          exact absurd H (by simp)
  · rw [if_neg c3] at H
    have c3b0 : (t638 == 0) = false := beq_eq_false_iff_ne.mpr c3
    have c3b1 : (t638 != 0) = true := bne_iff_ne.mpr c3
    simp only [Option.some.injEq, Prod.mk.injEq] at H
    obtain ⟨rfl, rfl, rfl⟩ := H
    go_enter Try.func39, Try.ntmps39
    go_wp2_with (first | ((with_reducible refine gate_callee (f := 19) rfl ?_); refine goesL_ (some 11) rfl rfl Try.func19 (by kernel_rfl) rfl #[.slice A0 l0.length c0] rfl (by (try simp only [List.map_toArray, List.map_cons, List.map_nil]); first | done | rfl | (simp only [List.length_drop, List.length_take]; rfl)) ?_; (with_reducible refine (pomaderef07_Diagram.calls k _ _ l0 t638 _ ?side1 ?side2 A2.out).mono ?_); (case side1 => repeat (first | exact (Kd.V_reads' HO0.out).2.2 | (with_reducible refine Kd.C_alloc ?_ _) | (with_reducible refine Kd.C_drewN ?_ _) | (with_reducible refine Kd.C_drew ?_))); (case side2 => exact (Kd.V_reads' HO0.out).2.1); rintro e w' ⟨rfl, ⟨nd, rfl⟩⟩; refine ⟨_, rfl, ?_⟩))
    go_ret3
    exact ⟨by first | rfl | (simp [errW_none, errW_some] <;> rfl) | (simp [*, errW_none, errW_some] <;> rfl), by repeat (first | (with_reducible first | exact HB.out | apply below_alloc | apply pw_below_drewN | apply below_drew1) | exact HB.out)⟩
end Go.Proofs.Ytjfkompfkgjdaaa.PC
end
section
/- The diagram that a hook on top of it leads to another one, as the program finds it: plain. -/
namespace Go.Proofs.Ytjfkompfkgjdaaa.PC
open Go.RowKit Go.Proofs.YtjfkompfkgjdaaaW.PrintWords Go.Proofs.YtjfkompfkgjdaaaW.PrintLast Go.Proofs.YtjfkompfkgjdaaaW.PrintMore
/-- an arch opened: its ends take the places of the ends of another strand -/
def plait_open (d : List Int) (p q e0 e1 : Int) : List Int := (((d.set e0.toNat p).set p.toNat e0).set e1.toNat q).set q.toNat e1
/-- is it the one? -/
def plait_try (k : Nat) (d : List Int) (n : Nat) (i want : Int) (o : List Int) : Option (Option (List Int)) :=
  (plait_diagram_arches.f k o).bind fun a => if a.2 = true then ((plait_diagram_height.f k o).bind fun h => if h = want then ((plait_hook.f k (n : Int) i).bind fun hk => (plait_diagram_product.f hk o).bind fun b => if b.2 = 0 then ((plait_diagram_int_69.f k b.1 d).bind fun eq => if eq = true then some (some o) else some none) else some none) else some none) else some none
def plait_ends (k : Nat) (d : List Int) (n : Nat) (i want p q : Int) : Nat → Option (Option (List Int))
  | 0 => (plait_try k d n i want (plait_open d p q i (i + 1))).bind fun r => if r.isSome = true then some r else ((plait_try k d n i want (plait_open d p q (i + 1) i)).bind fun s => some s)
  | 1 => (plait_try k d n i want (plait_open d p q (i + 1) i)).bind fun s => some s
  | _ => some none
def plait_search (k : Nat) (d : List Int) (n : Nat) (i want : Int) : Nat → Nat → Option (List Int)
  | 0, _ => some []
  | m + 1, p =>
    if (p : Int) = i ∨ (p : Int) = i + 1 ∨ rd d (p : Int) = i ∨ rd d (p : Int) = i + 1 then plait_search k d n i want m (p + 1)
    else if 0 ≤ rd d (p : Int) ∧ rd d (p : Int) < (d.length : Int) then ((plait_ends k d n i want (p : Int) (rd d (p : Int)) 0).bind fun r => if r.isSome = true then some (r.getD []) else plait_search k d n i want m (p + 1))
    else none
def plait_short (k : Nat) (l0 : List Int) (a1 : Int) : Option (List Int) :=
  if l0.length = 2 * (l0.length / 2) ∧ l0.length ≤ 1000 ∧ 0 ≤ a1 ∧ a1 + 1 < ((l0.length / 2 : Nat) : Int) then
    (if rd l0 a1 = a1 + 1 then ((plait_diagram_height.f k l0).bind fun ht => plait_search k l0 (l0.length / 2) a1 (wrap64 (ht - 1)) (2 * (l0.length / 2)) 0) else some [])
  else none
/-- the first hook that leads on -/
def plait_pick (k : Nat) (d : List Int) : Nat → Nat → Option (Option (Nat × List Int))
  | 0, _ => some none
  | c + 1, i => (plait_short k d (i : Int)).bind fun o => if o = [] then plait_pick k d c (i + 1) else some (some (i, o))
def plait_wordGo (k : Nat) : Nat → List Int → List Int → Option (List Int)
  | 0, _, _ => none
  | m + 1, d, out =>
    if d.length = 2 * (d.length / 2) ∧ d.length ≤ 1000 ∧ 0 < d.length then
      (plait_diagram_height.f k d).bind fun h => if h > 0 then ((plait_pick k d (d.length / 2 - 1) 0).bind fun r => if r.isSome = true then plait_wordGo k m (r.getD (0, [])).2 (out ++ [(((r.getD (0, [])).1 : Nat) : Int)]) else none) else some out
    else none
theorem plait_try_mono (k : Nat) (d : List Int) (n : Nat) (i want : Int) (o : List Int) : LeO (plait_try k d n i want o) (plait_try (k + 1) d n i want o) := by
  unfold plait_try
  exact LeO.bind (plait_diagram_arches.mono _ k) fun _ => LeO.ite (LeO.bind (plait_diagram_height.mono _ k) fun _ => LeO.ite (LeO.bind (plait_hook.mono _ _ k) fun _ => LeO.bind (LeO.refl _) fun _ => LeO.ite (LeO.bind (plait_diagram_int_69.mono _ _ k) fun _ => LeO.refl _) (LeO.refl _)) (LeO.refl _)) (LeO.refl _)
theorem plait_ends_mono (k : Nat) (d : List Int) (n : Nat) (i want p q : Int) : ∀ j, LeO (plait_ends k d n i want p q j) (plait_ends (k + 1) d n i want p q j)
  | 0 => by
    simp only [plait_ends]
    exact LeO.bind (plait_try_mono _ _ _ _ _ _) fun _ => LeO.ite (LeO.refl _) (LeO.bind (plait_try_mono _ _ _ _ _ _) fun _ => LeO.refl _)
  | 1 => by
    simp only [plait_ends]
    exact LeO.bind (plait_try_mono _ _ _ _ _ _) fun _ => LeO.refl _
  | _ + 2 => by simp only [plait_ends]; exact LeO.refl _
theorem plait_search_mono (k : Nat) (d : List Int) (n : Nat) (i want : Int) : ∀ m p, LeO (plait_search k d n i want m p) (plait_search (k + 1) d n i want m p)
  | 0, _ => by simp only [plait_search]; exact LeO.refl _
  | m + 1, p => by
    simp only [plait_search]
    exact LeO.ite (plait_search_mono k d n i want m _) (LeO.ite (LeO.bind (plait_ends_mono _ _ _ _ _ _ _ _) fun _ => LeO.ite (LeO.refl _) (plait_search_mono k d n i want m _)) (LeO.refl _))
theorem plait_short_mono (k : Nat) (l0 : List Int) (a1 : Int) : LeO (plait_short k l0 a1) (plait_short (k + 1) l0 a1) := by
  unfold plait_short
  exact LeO.ite (LeO.ite (LeO.bind (plait_diagram_height.mono _ k) fun _ => plait_search_mono _ _ _ _ _ _ _) (LeO.refl _)) (LeO.refl _)
theorem plait_pick_mono (k : Nat) (d : List Int) : ∀ c i, LeO (plait_pick k d c i) (plait_pick (k + 1) d c i)
  | 0, _ => by simp only [plait_pick]; exact LeO.refl _
  | c + 1, i => by
    simp only [plait_pick]
    exact LeO.bind (plait_short_mono _ _ _) fun _ => LeO.ite (plait_pick_mono k d c _) (LeO.refl _)
theorem plait_wordGo_mono (k : Nat) : ∀ m d out, LeO (plait_wordGo k m d out) (plait_wordGo (k + 1) m d out)
  | 0, _, _ => by simp only [plait_wordGo]; exact LeO.refl _
  | m + 1, d, out => by
    simp only [plait_wordGo]
    exact LeO.ite (LeO.bind (plait_diagram_height.mono _ k) fun _ => LeO.ite (LeO.bind (plait_pick_mono _ _ _ _) fun _ => LeO.ite (plait_wordGo_mono k m _ _) (LeO.refl _)) (LeO.refl _)) (LeO.refl _)
end Go.Proofs.Ytjfkompfkgjdaaa.PC
end
