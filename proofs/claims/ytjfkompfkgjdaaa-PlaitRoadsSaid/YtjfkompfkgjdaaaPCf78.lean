-- Printed by a program of this session (mkprint.sh, over the kit's print.py), with own proofs for the functions that the print does not take.
import Derived.Test.YtjfkompfkgjdaaaPCf72
import Derived.Test.YtjfkompfkgjdaaaPCx0
namespace Go.Proofs.Ytjfkompfkgjdaaa.PC
open Go.RowKit Go.Proofs.YtjfkompfkgjdaaaW.PrintWords Go.Proofs.YtjfkompfkgjdaaaW.PrintLast Go.Proofs.YtjfkompfkgjdaaaW.PrintMore
attribute [local go_sem] max2_int min2_int max_two min_two max_three min_three max_four min_four   -- for this text's walks alone
set_option linter.unusedVariables false
set_option linter.unusedSimpArgs false

/-! ### plait_diagram_height: function 78 -/
mutual
def plait_diagram_height.l0 : Nat → List Int → Int → Int → Int → Int → Option (Int)
  | 0, _, _, _, _, _ => none
  | k + 1, x0, x3, x4, x12, x13 => if x13 < x12 then (plait_diagram_height.l1 k x0 x3 x4 x13 0 x12 x13 x0 (x0.length : Int) 0) else (some (wrap64 (Int.tdiv x4 2)))
def plait_diagram_height.l1 : Nat → List Int → Int → Int → Int → Int → Int → Int → List Int → Int → Int → Option (Int)
  | 0, _, _, _, _, _, _, _, _, _, _ => none
  | k + 1, x0, x3, x4, x5, x6, x12, x13, x16, x17, x18 => if x18 < x17 then (if 0 ≤ x18 then (if x18 < (x16.length : Int) then (if x18 < (rd x16 x18) then (if x3 = 0 then (none) else (if ((decide ((Int.tmod x18 x3) ≤ x5)) != (decide ((Int.tmod (rd x16 x18) x3) ≤ x5))) = true then (plait_diagram_height.l1 k x0 x3 x4 x5 (wrap64 (x6 + 1)) x12 x13 x16 x17 (wrap64 (x18 + 1))) else (plait_diagram_height.l1 k x0 x3 x4 x5 x6 x12 x13 x16 x17 (wrap64 (x18 + 1))))) else (plait_diagram_height.l1 k x0 x3 x4 x5 x6 x12 x13 x16 x17 (wrap64 (x18 + 1)))) else (none)) else (none)) else (plait_diagram_height.l0 k x0 x3 (wrap64 (x4 + x6)) x12 (wrap64 (x13 + 1)))
end
def plait_diagram_height.f (k : Nat) (l0 : List Int) : Option (Int) := (plait_diagram_size.f l0).bind fun t139 => (plait_diagram_height.l0 k l0 t139 0 (wrap64 (t139 - 1)) 0)
theorem plait_diagram_height.mono_l : ∀ k, (∀ y0 y1 y2 y3 y4, LeO (plait_diagram_height.l0 k y0 y1 y2 y3 y4) (plait_diagram_height.l0 (k + 1) y0 y1 y2 y3 y4)) ∧ (∀ y0 y1 y2 y3 y4 y5 y6 y7 y8 y9, LeO (plait_diagram_height.l1 k y0 y1 y2 y3 y4 y5 y6 y7 y8 y9) (plait_diagram_height.l1 (k + 1) y0 y1 y2 y3 y4 y5 y6 y7 y8 y9))
  | 0 => ⟨fun _ _ _ _ _ r h => by simp [plait_diagram_height.l0] at h, fun _ _ _ _ _ _ _ _ _ _ r h => by simp [plait_diagram_height.l1] at h⟩
  | k + 1 => by
    obtain ⟨ih0, ih1⟩ := plait_diagram_height.mono_l k
    refine ⟨?_, ?_⟩
    · intro y0 y1 y2 y3 y4
      unfold plait_diagram_height.l0
      repeat' first
      | (with_reducible exact ih0 _ _ _ _ _)
      | (with_reducible exact ih1 _ _ _ _ _ _ _ _ _ _)
      | (with_reducible exact LeO.refl _)
      | (with_reducible exact LeO.none _)
      | (with_reducible refine LeO.ite ?_ ?_)
      | (with_reducible refine LeO.bind ?_ (fun _ => ?_))
      | exact ih0 _ _ _ _ _
      | exact ih1 _ _ _ _ _ _ _ _ _ _
      | exact LeO.none _
      | refine LeO.ite ?_ ?_
      | refine LeO.bind ?_ (fun _ => ?_)
    · intro y0 y1 y2 y3 y4 y5 y6 y7 y8 y9
      unfold plait_diagram_height.l1
      repeat' first
      | (with_reducible exact ih0 _ _ _ _ _)
      | (with_reducible exact ih1 _ _ _ _ _ _ _ _ _ _)
      | (with_reducible exact LeO.refl _)
      | (with_reducible exact LeO.none _)
      | (with_reducible refine LeO.ite ?_ ?_)
      | (with_reducible refine LeO.bind ?_ (fun _ => ?_))
      | exact ih0 _ _ _ _ _
      | exact ih1 _ _ _ _ _ _ _ _ _ _
      | exact LeO.none _
      | refine LeO.ite ?_ ?_
      | refine LeO.bind ?_ (fun _ => ?_)
theorem plait_diagram_height.mono : ∀ a0 k, LeO (plait_diagram_height.f k a0) (plait_diagram_height.f (k + 1) a0) := by
  intro a0 k
  obtain ⟨ih0, ih1⟩ := plait_diagram_height.mono_l k
  unfold plait_diagram_height.f
  repeat' first
      | (with_reducible exact ih0 _ _ _ _ _)
      | (with_reducible exact ih1 _ _ _ _ _ _ _ _ _ _)
      | (with_reducible exact LeO.refl _)
      | (with_reducible exact LeO.none _)
      | (with_reducible refine LeO.ite ?_ ?_)
      | (with_reducible refine LeO.bind ?_ (fun _ => ?_))
      | exact ih0 _ _ _ _ _
      | exact ih1 _ _ _ _ _ _ _ _ _ _
      | exact LeO.none _
      | refine LeO.ite ?_ ?_
      | refine LeO.bind ?_ (fun _ => ?_)
set_option maxHeartbeats 8000000 in
set_option maxRecDepth 100000 in
theorem plait_diagram_height.calls (k : Nat) (A0 : Option Addr) (c0 : Nat) (l0 : List Int) (r : Int) (w : World) (hr0 : Kd.C (Kd.int .i64) w A0 l0.length l0) (hc0 : l0.length ≤ c0) (h : plait_diagram_height.f k l0 = some r) :
    Calls Try.prog 78 #[.slice A0 l0.length c0] w fun e w' => e = .returned (.int .i64 r) ∧ Drawn0 w w' := by
  have HR0 := Aside0.mk hr0
  have HC0 := Aside0.mk hc0
  clear hr0 hc0
  have H : ((plait_diagram_size.f l0).bind fun t139 => (plait_diagram_height.l0 k l0 t139 0 (wrap64 (t139 - 1)) 0)) = some r := h
  clear h
  replace H := Option.bind_eq_some_iff.mp H
  obtain ⟨t139, A20, H⟩ := H
  replace H : (plait_diagram_height.l0 k l0 t139 0 (wrap64 (t139 - 1)) 0) = some r := H
  have A2 := Aside0.mk A20
  clear A20
  have H' := Aside0.mk H
  clear H
  go_enter Try.func78, Try.ntmps78
  go_wp2_with (first | (go_at_call 72; (with_reducible refine (plait_diagram_size.calls _ _ l0 t139 _ ?side1 ?side2 A2.out).mono ?_); (case side1 => repeat (first | exact HR0.out | (with_reducible refine Kd.C_alloc ?_ _) | (with_reducible refine Kd.C_drewN ?_ _) | (with_reducible refine Kd.C_drew ?_))); (case side2 => exact HC0.out); rintro e w' ⟨rfl, ⟨nd, rfl⟩⟩; (try first | exact ⟨rfl, _, World.drewN_drewN _ _ _⟩ | exact ⟨rfl, _, Eq.trans (World.drewN_drewN _ _ _) (congrArg (World.drewN _) (Nat.add_assoc _ _ _))⟩)))
  repeat (go_quiet (first | (go_at_call 72; (with_reducible refine (plait_diagram_size.calls _ _ l0 t139 _ ?side1 ?side2 A2.out).mono ?_); (case side1 => repeat (first | exact HR0.out | (with_reducible refine Kd.C_alloc ?_ _) | (with_reducible refine Kd.C_drewN ?_ _) | (with_reducible refine Kd.C_drew ?_))); (case side2 => exact HC0.out); rintro e w' ⟨rfl, ⟨nd, rfl⟩⟩; (try first | exact ⟨rfl, _, World.drewN_drewN _ _ _⟩ | exact ⟨rfl, _, Eq.trans (World.drewN_drewN _ _ _) (congrArg (World.drewN _) (Nat.add_assoc _ _ _))⟩))); try go_wp2_with (first | (go_at_call 72; (with_reducible refine (plait_diagram_size.calls _ _ l0 t139 _ ?side1 ?side2 A2.out).mono ?_); (case side1 => repeat (first | exact HR0.out | (with_reducible refine Kd.C_alloc ?_ _) | (with_reducible refine Kd.C_drewN ?_ _) | (with_reducible refine Kd.C_drew ?_))); (case side2 => exact HC0.out); rintro e w' ⟨rfl, ⟨nd, rfl⟩⟩; (try first | exact ⟨rfl, _, World.drewN_drewN _ _ _⟩ | exact ⟨rfl, _, Eq.trans (World.drewN_drewN _ _ _) (congrArg (World.drewN _) (Nat.add_assoc _ _ _))⟩))))
  go_loopg [4, 13] k (fun kq v4 v13 w' => ∃ (x4_1 : Int) (x13_1 : Int), v4 = .int .i64 x4_1 ∧ v13 = .int .i64 x13_1 ∧ Aside0 (plait_diagram_height.l0 kq l0 t139 x4_1 (wrap64 (t139 - 1)) x13_1 = some r) ∧ Aside0 (kq ≤ k) ∧ Drawn0 w w')
  case atStart => exact ⟨(0), (0), (by first | rfl | (simp; done) | (simp [*]; done)), (by first | rfl | (simp; done) | (simp [*]; done)), H', ⟨Nat.le_refl _⟩, by repeat (first | exact Drawn0.refl _ | apply Drawn0.step)⟩
  case round =>
    clear H'
    try clear p2
    obtain ⟨x4_1, x13_1, rfl, rfl, HA, HK1, ⟨m1, rfl⟩⟩ := hrel
    cases gk with
    | zero => exact absurd HA.out (by simp [plait_diagram_height.l0])
    | succ k1 =>
      have H := HA.out
      clear HA
      simp only [plait_diagram_height.l0] at H
      by_cases c3 : x13_1 < (wrap64 (t139 - 1))
      · rw [if_pos c3] at H
        have c3b0 : decide (x13_1 < (wrap64 (t139 - 1))) = true := decide_eq_true c3
        clear c3
        have H' := Aside0.mk H
        clear H
        go_wp2
        repeat (go_quiet (fail); try go_wp2)
        go_loopg [6, 18] k1 (fun kq v6 v18 w' => ∃ (x6_2 : Int) (x18_2 : Int), v6 = .int .i64 x6_2 ∧ v18 = .int .i64 x18_2 ∧ Aside0 (plait_diagram_height.l1 kq l0 t139 x4_1 x13_1 x6_2 (wrap64 (t139 - 1)) x13_1 l0 (l0.length : Int) x18_2 = some r) ∧ Aside0 (kq ≤ k1) ∧ Drawn0 w w')
        case atStart => exact ⟨(0), (0), (by first | rfl | (simp; done) | (simp [*]; done)), (by first | rfl | (simp; done) | (simp [*]; done)), H', ⟨Nat.le_refl _⟩, by repeat (first | exact Drawn0.refl _ | apply Drawn0.step)⟩
        case round =>
          clear H'
          try clear p2
          try clear c3
          try clear c3b0
          try clear p2
          obtain ⟨x6_2, x18_2, rfl, rfl, HA, HK2, ⟨m2, rfl⟩⟩ := hrel
          cases gk with
          | zero => exact absurd HA.out (by simp [plait_diagram_height.l1])
          | succ k2 =>
            have H := HA.out
            clear HA
            simp only [plait_diagram_height.l1] at H
            by_cases c4 : x18_2 < (l0.length : Int)
            · rw [if_pos c4] at H
              have c4b0 : decide (x18_2 < (l0.length : Int)) = true := decide_eq_true c4
              clear c4
              by_cases c5 : 0 ≤ x18_2
              · rw [if_pos c5] at H
                have c5b0 : decide (0 ≤ x18_2) = true := decide_eq_true c5
                clear c5
                by_cases c6 : x18_2 < (l0.length : Int)
                · rw [if_pos c6] at H
                  have c6b0 : decide (x18_2 < (l0.length : Int)) = true := decide_eq_true c6
                  clear c6
                  by_cases c7 : x18_2 < (rd l0 x18_2)
                  · rw [if_pos c7] at H
                    have c7b0 : decide (x18_2 < (rd l0 x18_2)) = true := decide_eq_true c7
                    clear c7
                    by_cases c8 : t139 = 0
                    · rw [if_pos c8] at H
                      exact absurd H (by simp)
                    · rw [if_neg c8] at H
                      have c8b0 : (t139 == 0) = false := beq_eq_false_iff_ne.mpr c8
                      have c8b1 : (t139 != 0) = true := bne_iff_ne.mpr c8
                      by_cases c9 : ((decide ((Int.tmod x18_2 t139) ≤ x13_1)) != (decide ((Int.tmod (rd l0 x18_2) t139) ≤ x13_1))) = true
                      · rw [if_pos c9] at H
                        have c9b0 : ((decide ((Int.tmod x18_2 t139) ≤ x13_1)) != (decide ((Int.tmod (rd l0 x18_2) t139) ≤ x13_1))) = true := c9
                        (try (have c9b1 : decide ((decide ((Int.tmod x18_2 t139) ≤ x13_1)) = (decide ((Int.tmod (rd l0 x18_2) t139) ≤ x13_1))) = false := by simpa using c9))
                        (try (have c9b2 : ((decide ((Int.tmod x18_2 t139) ≤ x13_1)) == (decide ((Int.tmod (rd l0 x18_2) t139) ≤ x13_1))) = false := by simpa using c9))
                        (try (have c9b3 : ¬ ((decide ((Int.tmod x18_2 t139) ≤ x13_1)) = (decide ((Int.tmod (rd l0 x18_2) t139) ≤ x13_1))) := by simpa using c9))
                        clear c9
                        have H' := Aside0.mk H
                        clear H
                        have p140 : 0 ≤ (x18_2 : Int) := of_decide_eq_true (by first | (with_reducible assumption) | assumption)
                        have q140 : x18_2 < (l0.length : Int) := of_decide_eq_true (by first | (with_reducible assumption) | assumption)
                        obtain ⟨ad140, e140, hx140_0⟩ := Kd.at_int HR0.out x18_2 p140 q140
                        cases e140
                        replace p140 := eq_true p140
                        replace q140 := eq_true q140
                        go_wp2
                        repeat (go_quiet (fail); try go_wp2)
                        go_roundg k2
                        case measure => have := HK1.out; have := HK2.out; omega
                        case rel => exact ⟨(wrap64 (x6_2 + 1)), (wrap64 (x18_2 + 1)), (by first | rfl | (simp; done) | (simp [*]; done)), (by first | rfl | (simp; done) | (simp [*]; done)), H', ⟨by have := HK1.out; have := HK2.out; omega⟩, by repeat (first | exact Drawn0.refl _ | apply Drawn0.step)⟩
                      · rw [if_neg c9] at H
                        have c9b0 : ((decide ((Int.tmod x18_2 t139) ≤ x13_1)) != (decide ((Int.tmod (rd l0 x18_2) t139) ≤ x13_1))) = false := by simpa using c9
                        (try (have c9b1 : decide ((decide ((Int.tmod x18_2 t139) ≤ x13_1)) = (decide ((Int.tmod (rd l0 x18_2) t139) ≤ x13_1))) = true := by simpa using c9))
                        (try (have c9b2 : ((decide ((Int.tmod x18_2 t139) ≤ x13_1)) == (decide ((Int.tmod (rd l0 x18_2) t139) ≤ x13_1))) = true := by simpa using c9))
                        clear c9
                        have H' := Aside0.mk H
                        clear H
                        have p140 : 0 ≤ (x18_2 : Int) := of_decide_eq_true (by first | (with_reducible assumption) | assumption)
                        have q140 : x18_2 < (l0.length : Int) := of_decide_eq_true (by first | (with_reducible assumption) | assumption)
                        obtain ⟨ad140, e140, hx140_0⟩ := Kd.at_int HR0.out x18_2 p140 q140
                        cases e140
                        replace p140 := eq_true p140
                        replace q140 := eq_true q140
                        go_wp2
                        repeat (go_quiet (fail); try go_wp2)
                        go_roundg k2
                        case measure => have := HK1.out; have := HK2.out; omega
                        case rel => exact ⟨(x6_2), (wrap64 (x18_2 + 1)), (by first | rfl | (simp; done) | (simp [*]; done)), (by first | rfl | (simp; done) | (simp [*]; done)), H', ⟨by have := HK1.out; have := HK2.out; omega⟩, by repeat (first | exact Drawn0.refl _ | apply Drawn0.step)⟩
                  · rw [if_neg c7] at H
                    have c7b0 : decide (x18_2 < (rd l0 x18_2)) = false := decide_eq_false c7
                    clear c7
                    have H' := Aside0.mk H
                    clear H
                    have p140 : 0 ≤ (x18_2 : Int) := of_decide_eq_true (by first | (with_reducible assumption) | assumption)
                    have q140 : x18_2 < (l0.length : Int) := of_decide_eq_true (by first | (with_reducible assumption) | assumption)
                    obtain ⟨ad140, e140, hx140_0⟩ := Kd.at_int HR0.out x18_2 p140 q140
                    cases e140
                    replace p140 := eq_true p140
                    replace q140 := eq_true q140
                    go_wp2
                    repeat (go_quiet (fail); try go_wp2)
                    go_roundg k2
                    case measure => have := HK1.out; have := HK2.out; omega
                    case rel => exact ⟨(x6_2), (wrap64 (x18_2 + 1)), (by first | rfl | (simp; done) | (simp [*]; done)), (by first | rfl | (simp; done) | (simp [*]; done)), H', ⟨by have := HK1.out; have := HK2.out; omega⟩, by repeat (first | exact Drawn0.refl _ | apply Drawn0.step)⟩
                · rw [if_neg c6] at H
                  exact absurd H (by simp)
              · rw [if_neg c5] at H
                exact absurd H (by simp)
            · rw [if_neg c4] at H
              have c4b0 : decide (x18_2 < (l0.length : Int)) = false := decide_eq_false c4
              clear c4
              have H' := Aside0.mk H
              clear H
              go_wp2
              repeat (go_quiet (fail); try go_wp2)
              go_roundg k2
              case measure => have := HK1.out; have := HK2.out; omega
              case rel => exact ⟨(wrap64 (x4_1 + x6_2)), (wrap64 (x13_1 + 1)), (by first | rfl | (simp; done) | (simp [*]; done)), (by first | rfl | (simp; done) | (simp [*]; done)), H', ⟨by have := HK1.out; have := HK2.out; omega⟩, by repeat (first | exact Drawn0.refl _ | apply Drawn0.step)⟩
      · rw [if_neg c3] at H
        have c3b0 : decide (x13_1 < (wrap64 (t139 - 1))) = false := decide_eq_false c3
        clear c3
        obtain rfl := Option.some.inj H
        go_wp2
        repeat (go_quiet (fail); try go_wp2)
        go_ret
        exact ⟨by first | rfl | (simp; done) | (simp [*]; done), by repeat (first | exact Drawn0.refl _ | apply Drawn0.step)⟩

end Go.Proofs.Ytjfkompfkgjdaaa.PC
