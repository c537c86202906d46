/- Parts of the proof of LawPlaitJones, one behind the other: PCg3 PCf16 MGlue MOrb MJoin LProd PCg6 LPart LLoop MPile LDia LSelf PCf28 LIdent MAssoc MPlan LAssoc. -/
import Derived.Test.YtjfkompfkgjdaaaJPlaitJones3
section
namespace Go.Proofs.Ytjfkompfkgjdaaa.PC
open Go.RowKit Go.Proofs.YtjfkompfkgjdaaaW.PrintWords Go.Proofs.YtjfkompfkgjdaaaW.PrintLast Go.Proofs.YtjfkompfkgjdaaaW.PrintMore
attribute [local go_sem] max2_int min2_int max_two min_two max_three min_three max_four min_four   -- for this text's walks alone
set_option linter.unusedVariables false
set_option linter.unusedSimpArgs false
/-! ### pomaderef07_border: function 53 -/
def pomaderef07_border.f (a0 : Int) (a1 : Int) : Option (Int) := if a1 < a0 then (some a1) else (some (wrap64 ((wrap64 ((wrap64 (3 * a0)) - 1)) - a1)))
set_option maxHeartbeats 8000000 in
set_option maxRecDepth 100000 in
theorem pomaderef07_border.calls (a0 : Int) (a1 : Int) (r : Int) (w : World) (h : pomaderef07_border.f a0 a1 = some r) :
  Calls Try.prog 53 #[.int .i64 a0, .int .i64 a1] w fun e w' => e = .returned (.int .i64 r) ∧ Drawn0 w w' := by
 have H : (if a1 < a0 then (some a1) else (some (wrap64 ((wrap64 ((wrap64 (3 * a0)) - 1)) - a1)))) = some r := h
 clear h
 by_cases c3 : a1 < a0
 ·rw [if_pos c3] at H
  have c3b0 : decide (a1 < a0) = true := decide_eq_true c3
  clear c3
  obtain rfl := Option.some.inj H
  go_enter Try.func53, Try.ntmps53
  go_wp2
  go_ret
  exact ⟨by first | rfl | (simp; done) | (simp [*]; done), by repeat (first | exact Drawn0.refl _ | apply Drawn0.step)⟩
 ·rw [if_neg c3] at H
  have c3b0 : decide (a1 < a0) = false := decide_eq_false c3
  clear c3
  obtain rfl := Option.some.inj H
  go_enter Try.func53, Try.ntmps53
  go_wp2
  go_ret
  exact ⟨by first | rfl | (simp; done) | (simp [*]; done), by repeat (first | exact Drawn0.refl _ | apply Drawn0.step)⟩
/-! ### pomaderef07_Diagram: function 19 -/
mutual
def pomaderef07_Diagram.j0 : Nat → List Int → Int → Bool → Option (Int)
 | 0, _, _, _ => none
 | k + 1, x0, x3, x24 => if x24 = true then (some 2) else (pomaderef07_Diagram.l0 k x0 x3 0)
def pomaderef07_Diagram.l0 : Nat → List Int → Int → Int → Option (Int)
 | 0, _, _, _ => none
 | k + 1, x0, x3, x4 => if x4 < (x0.length : Int) then (if 0 ≤ x4 then (if (rd x0 x4) < 0 then (some 2) else (if (rd x0 x4) ≥ (x0.length : Int) then (some 2) else (if (rd x0 x4) = x4 then (some 2) else (if 0 ≤ (rd x0 x4) then (if (rd x0 x4) < (x0.length : Int) then (if (rd x0 (rd x0 x4)) = x4 then (pomaderef07_Diagram.l0 k x0 x3 (wrap64 (x4 + 1))) else (some 2)) else (none)) else (none))))) else (none)) else (pomaderef07_Diagram.l1 k x0 x3 0)
def pomaderef07_Diagram.l1 : Nat → List Int → Int → Int → Option (Int)
 | 0, _, _, _ => none
 | k + 1, x0, x3, x5 => if x5 < (x0.length : Int) then (pomaderef07_Diagram.l2 k x0 x3 x5 0) else (some 0)
def pomaderef07_Diagram.l2 : Nat → List Int → Int → Int → Int → Option (Int)
 | 0, _, _, _, _ => none
 | k + 1, x0, x3, x5, x6 => if x6 < (x0.length : Int) then ((pomaderef07_border.f x3 x5).bind fun t269 => (if 0 ≤ x5 then (if x5 < (x0.length : Int) then ((pomaderef07_border.f x3 (rd x0 x5)).bind fun t271 => ((pomaderef07_border.f x3 x6).bind fun t272 => (if 0 ≤ x6 then ((pomaderef07_border.f x3 (rd x0 x6)).bind fun t274 => (if t269 < t272 then (if t272 < t271 then (if t271 < t274 then (some 2) else (pomaderef07_Diagram.l2 k x0 x3 x5 (wrap64 (x6 + 1)))) else (pomaderef07_Diagram.l2 k x0 x3 x5 (wrap64 (x6 + 1)))) else (pomaderef07_Diagram.l2 k x0 x3 x5 (wrap64 (x6 + 1))))) else (none)))) else (none)) else (none))) else (pomaderef07_Diagram.l1 k x0 x3 (wrap64 (x5 + 1)))
end
def pomaderef07_Diagram.f (k : Nat) (l0 : List Int) : Option (Int) := if (l0.length : Int) > 20 then (some 3) else (if (wrap64 ((l0.length : Int) / 2)) < 1 then (pomaderef07_Diagram.j0 k l0 (wrap64 ((l0.length : Int) / 2)) true) else (pomaderef07_Diagram.j0 k l0 (wrap64 ((l0.length : Int) / 2)) (((l0.length : Int) % 2) == 1)))
theorem pomaderef07_Diagram.mono_l : ∀ k, (∀ y0 y1 y2, LeO (pomaderef07_Diagram.j0 k y0 y1 y2) (pomaderef07_Diagram.j0 (k + 1) y0 y1 y2)) ∧ (∀ y0 y1 y2, LeO (pomaderef07_Diagram.l0 k y0 y1 y2) (pomaderef07_Diagram.l0 (k + 1) y0 y1 y2)) ∧ (∀ y0 y1 y2, LeO (pomaderef07_Diagram.l1 k y0 y1 y2) (pomaderef07_Diagram.l1 (k + 1) y0 y1 y2)) ∧ (∀ y0 y1 y2 y3, LeO (pomaderef07_Diagram.l2 k y0 y1 y2 y3) (pomaderef07_Diagram.l2 (k + 1) y0 y1 y2 y3))
 | 0 => ⟨fun _ _ _ r h => by simp [pomaderef07_Diagram.j0] at h, fun _ _ _ r h => by simp [pomaderef07_Diagram.l0] at h, fun _ _ _ r h => by simp [pomaderef07_Diagram.l1] at h, fun _ _ _ _ r h => by simp [pomaderef07_Diagram.l2] at h⟩
 | k + 1 => by
  obtain ⟨ih0, ih1, ih2, ih3⟩ := pomaderef07_Diagram.mono_l k
  refine ⟨?_, ?_, ?_, ?_⟩
  ·intro y0 y1 y2
   unfold pomaderef07_Diagram.j0
   repeat' first
   | (with_reducible exact ih0 _ _ _)
   | (with_reducible exact ih1 _ _ _)
   | (with_reducible exact ih2 _ _ _)
   | (with_reducible exact ih3 _ _ _ _)
   | (with_reducible exact LeO.refl _)
   | (with_reducible exact LeO.none _)
   | (with_reducible refine LeO.ite ?_ ?_)
   | (with_reducible refine LeO.bind ?_ (fun _ => ?_))
   | exact ih0 _ _ _
   | exact ih1 _ _ _
   | exact ih2 _ _ _
   | exact ih3 _ _ _ _
   | exact LeO.none _
   | refine LeO.ite ?_ ?_
   | refine LeO.bind ?_ (fun _ => ?_)
  ·intro y0 y1 y2
   unfold pomaderef07_Diagram.l0
   repeat' first
   | (with_reducible exact ih0 _ _ _)
   | (with_reducible exact ih1 _ _ _)
   | (with_reducible exact ih2 _ _ _)
   | (with_reducible exact ih3 _ _ _ _)
   | (with_reducible exact LeO.refl _)
   | (with_reducible exact LeO.none _)
   | (with_reducible refine LeO.ite ?_ ?_)
   | (with_reducible refine LeO.bind ?_ (fun _ => ?_))
   | exact ih0 _ _ _
   | exact ih1 _ _ _
   | exact ih2 _ _ _
   | exact ih3 _ _ _ _
   | exact LeO.none _
   | refine LeO.ite ?_ ?_
   | refine LeO.bind ?_ (fun _ => ?_)
  ·intro y0 y1 y2
   unfold pomaderef07_Diagram.l1
   repeat' first
   | (with_reducible exact ih0 _ _ _)
   | (with_reducible exact ih1 _ _ _)
   | (with_reducible exact ih2 _ _ _)
   | (with_reducible exact ih3 _ _ _ _)
   | (with_reducible exact LeO.refl _)
   | (with_reducible exact LeO.none _)
   | (with_reducible refine LeO.ite ?_ ?_)
   | (with_reducible refine LeO.bind ?_ (fun _ => ?_))
   | exact ih0 _ _ _
   | exact ih1 _ _ _
   | exact ih2 _ _ _
   | exact ih3 _ _ _ _
   | exact LeO.none _
   | refine LeO.ite ?_ ?_
   | refine LeO.bind ?_ (fun _ => ?_)
  ·intro y0 y1 y2 y3
   unfold pomaderef07_Diagram.l2
   repeat' first
   | (with_reducible exact ih0 _ _ _)
   | (with_reducible exact ih1 _ _ _)
   | (with_reducible exact ih2 _ _ _)
   | (with_reducible exact ih3 _ _ _ _)
   | (with_reducible exact LeO.refl _)
   | (with_reducible exact LeO.none _)
   | (with_reducible refine LeO.ite ?_ ?_)
   | (with_reducible refine LeO.bind ?_ (fun _ => ?_))
   | exact ih0 _ _ _
   | exact ih1 _ _ _
   | exact ih2 _ _ _
   | exact ih3 _ _ _ _
   | exact LeO.none _
   | refine LeO.ite ?_ ?_
   | refine LeO.bind ?_ (fun _ => ?_)
theorem pomaderef07_Diagram.mono : ∀ a0 k, LeO (pomaderef07_Diagram.f k a0) (pomaderef07_Diagram.f (k + 1) a0) := by
 intro a0 k
 obtain ⟨ih0, ih1, ih2, ih3⟩ := pomaderef07_Diagram.mono_l k
 unfold pomaderef07_Diagram.f
 repeat' first
   | (with_reducible exact ih0 _ _ _)
   | (with_reducible exact ih1 _ _ _)
   | (with_reducible exact ih2 _ _ _)
   | (with_reducible exact ih3 _ _ _ _)
   | (with_reducible exact LeO.refl _)
   | (with_reducible exact LeO.none _)
   | (with_reducible refine LeO.ite ?_ ?_)
   | (with_reducible refine LeO.bind ?_ (fun _ => ?_))
   | exact ih0 _ _ _
   | exact ih1 _ _ _
   | exact ih2 _ _ _
   | exact ih3 _ _ _ _
   | exact LeO.none _
   | refine LeO.ite ?_ ?_
   | refine LeO.bind ?_ (fun _ => ?_)
set_option maxHeartbeats 8000000 in
set_option maxRecDepth 100000 in
theorem pomaderef07_Diagram.calls (k : Nat) (A0 : Option Addr) (c0 : Nat) (l0 : List Int) (r : Int) (w : World) (hr0 : Kd.C (Kd.int .i64) w A0 l0.length l0) (hc0 : l0.length ≤ c0) (h : pomaderef07_Diagram.f k l0 = some r) :
  Calls Try.prog 19 #[.slice A0 l0.length c0] w fun e w' => e = .returned (.int .i64 r) ∧ Drawn0 w w' := by
 have HR0 := Aside0.mk hr0
 have HC0 := Aside0.mk hc0
 clear hr0 hc0
 have H : (if (l0.length : Int) > 20 then (some 3) else (if (wrap64 ((l0.length : Int) / 2)) < 1 then (pomaderef07_Diagram.j0 k l0 (wrap64 ((l0.length : Int) / 2)) true) else (pomaderef07_Diagram.j0 k l0 (wrap64 ((l0.length : Int) / 2)) (((l0.length : Int) % 2) == 1)))) = some r := h
 clear h
 by_cases c2 : (l0.length : Int) > 20
 ·rw [if_pos c2] at H
  have c2b0 : decide (20 < (l0.length : Int)) = true := decide_eq_true c2
  have c2b1 : decide (20 < l0.length) = true := decide_eq_true (by omega)
  clear c2
  obtain rfl := Option.some.inj H
  go_enter Try.func19, Try.ntmps19
  go_wp2
  repeat (go_quiet (fail); try go_wp2)
  go_ret
  exact ⟨by first | rfl | (simp; done) | (simp [*]; done), by repeat (first | exact Drawn0.refl _ | apply Drawn0.step)⟩
 ·rw [if_neg c2] at H
  have c2b0 : decide (20 < (l0.length : Int)) = false := decide_eq_false c2
  have c2b1 : decide (20 < l0.length) = false := decide_eq_false (by omega)
  clear c2
  have HC3 := Aside0.mk H
  clear H
  go_enter Try.func19, Try.ntmps19
  go_upto_region 4 with (fail)
  repeat (go_quiet (fail); go_upto_region 4 with (fail))
  go_cut [24] (fun v24 wc => ∃ (kq : Nat) (x24_2 : Bool), v24 = .bool x24_2 ∧ Aside0 (pomaderef07_Diagram.j0 kq l0 (wrap64 ((l0.length : Int) / 2)) x24_2 = some r) ∧ Aside0 (kq ≤ k) ∧ Drawn0 w wc)
  case first =>
   have H := HC3.out
   clear HC3
   by_cases c4 : (wrap64 ((l0.length : Int) / 2)) < 1
   ·rw [if_pos c4] at H
    have c4b0 : decide ((wrap64 ((l0.length : Int) / 2)) < 1) = true := decide_eq_true c4
    clear c4
    (first | rw [c4b0] | (simp only [i64_w, i32_w]; rw [c4b0]) | skip)
    have H' := Aside0.mk H
    clear H
    go_wp2
    repeat (go_quiet (fail); try go_wp2)
    go_meet
    case rel => exact ⟨_, (true), (by first | rfl | (simp; done) | (simp [*]; done)), H', ⟨by first | omega | exact Nat.le_refl _⟩, by repeat (first | exact Drawn0.refl _ | apply Drawn0.step)⟩
   ·rw [if_neg c4] at H
    have c4b0 : decide ((wrap64 ((l0.length : Int) / 2)) < 1) = false := decide_eq_false c4
    clear c4
    (first | rw [c4b0] | (simp only [i64_w, i32_w]; rw [c4b0]) | skip)
    have H' := Aside0.mk H
    clear H
    go_wp2
    repeat (go_quiet (fail); try go_wp2)
    go_meet
    case rel => exact ⟨_, ((((l0.length : Int) % 2) == 1)), (by first | rfl | (simp; done) | (simp [*]; done)), H', ⟨by first | omega | exact Nat.le_refl _⟩, by repeat (first | exact Drawn0.refl _ | apply Drawn0.step)⟩
  case rest =>
   clear HC3
   try clear c1
   try clear c2
   try clear c2b0
   try clear c2b1
   try clear p2
   try clear c4
   try clear c4b0
   obtain ⟨kq, x24_2, rfl, HA, HJ2, ⟨mc2, rfl⟩⟩ := hcut
   cases kq with
   | zero => exact absurd HA.out (by simp [pomaderef07_Diagram.j0])
   | succ kj2 =>
    have H := HA.out
    clear HA
    simp only [pomaderef07_Diagram.j0] at H
    by_cases c5 : x24_2 = true
    ·subst c5
     have H1 : (some 2) = some r := by rw [if_pos rfl] at H; exact H
     clear H
     have H := H1
     clear H1
     obtain rfl := Option.some.inj H
     go_wp2
     repeat (go_quiet (fail); try go_wp2)
     go_ret
     exact ⟨by first | rfl | (simp; done) | (simp [*]; done), by repeat (first | exact Drawn0.refl _ | apply Drawn0.step)⟩
    ·replace c5 := Bool.eq_false_iff.mpr c5
     subst c5
     have H1 : (pomaderef07_Diagram.l0 kj2 l0 (wrap64 ((l0.length : Int) / 2)) 0) = some r := by rw [if_neg (show ¬ (false = true) by decide)] at H; exact H
     clear H
     have H := H1
     clear H1
     have H' := Aside0.mk H
     clear H
     go_wp2
     repeat (go_quiet (fail); try go_wp2)
     go_loopg [4] kj2 (fun kq v4 w' => ∃ (x4_2 : Int), v4 = .int .i64 x4_2 ∧ Aside0 (pomaderef07_Diagram.l0 kq l0 (wrap64 ((l0.length : Int) / 2)) x4_2 = some r) ∧ Aside0 (kq ≤ kj2) ∧ Drawn0 w w')
     case atStart => exact ⟨(0), (by first | rfl | (simp; done) | (simp [*]; done)), H', ⟨Nat.le_refl _⟩, by repeat (first | exact Drawn0.refl _ | apply Drawn0.step)⟩
     case round =>
      clear H'
      try clear c1
      try clear c2
      try clear c2b0
      try clear c2b1
      try clear p2
      try clear c4
      try clear c4b0
      try clear c5
      try clear p2
      obtain ⟨x4_2, rfl, HA, HK2, ⟨m2, rfl⟩⟩ := hrel
      cases gk with
      | zero => exact absurd HA.out (by simp [pomaderef07_Diagram.l0])
      | succ k2 =>
       have H := HA.out
       clear HA
       simp only [pomaderef07_Diagram.l0] at H
       by_cases c6 : x4_2 < (l0.length : Int)
       ·rw [if_pos c6] at H
        have c6b0 : decide (x4_2 < (l0.length : Int)) = true := decide_eq_true c6
        clear c6
        by_cases c7 : 0 ≤ x4_2
        ·rw [if_pos c7] at H
         have c7b0 : decide (0 ≤ x4_2) = true := decide_eq_true c7
         clear c7
         by_cases c8 : (rd l0 x4_2) < 0
         ·rw [if_pos c8] at H
          have c8b0 : decide ((rd l0 x4_2) < 0) = true := decide_eq_true c8
          clear c8
          obtain rfl := Option.some.inj H
          have p264 : 0 ≤ (x4_2 : Int) := of_decide_eq_true (by first | (with_reducible assumption) | assumption)
          have q264 : x4_2 < (l0.length : Int) := of_decide_eq_true (by first | (with_reducible assumption) | assumption)
          obtain ⟨ad264, e264, hx264_0⟩ := Kd.at_int HR0.out x4_2 p264 q264
          cases e264
          replace p264 := eq_true p264
          replace q264 := eq_true q264
          go_wp2
          repeat (go_quiet (fail); try go_wp2)
          go_ret
          exact ⟨by first | rfl | (simp; done) | (simp [*]; done), by repeat (first | exact Drawn0.refl _ | apply Drawn0.step)⟩
         ·rw [if_neg c8] at H
          have c8b0 : decide ((rd l0 x4_2) < 0) = false := decide_eq_false c8
          clear c8
          by_cases c9 : (rd l0 x4_2) ≥ (l0.length : Int)
          ·rw [if_pos c9] at H
           have c9b0 : decide ((l0.length : Int) ≤ (rd l0 x4_2)) = true := decide_eq_true c9
           clear c9
           obtain rfl := Option.some.inj H
           have p264 : 0 ≤ (x4_2 : Int) := of_decide_eq_true (by first | (with_reducible assumption) | assumption)
           have q264 : x4_2 < (l0.length : Int) := of_decide_eq_true (by first | (with_reducible assumption) | assumption)
           obtain ⟨ad264, e264, hx264_0⟩ := Kd.at_int HR0.out x4_2 p264 q264
           cases e264
           replace p264 := eq_true p264
           replace q264 := eq_true q264
           have p265 : 0 ≤ (x4_2 : Int) := of_decide_eq_true (by first | (with_reducible assumption) | assumption)
           have q265 : x4_2 < (l0.length : Int) := of_decide_eq_true (by first | (with_reducible assumption) | assumption)
           obtain ⟨ad265, e265, hx265_0⟩ := Kd.at_int HR0.out x4_2 p265 q265
           obtain rfl : ad264 = ad265 := (by injection e265)
           replace p265 := eq_true p265
           replace q265 := eq_true q265
           go_wp2
           repeat (go_quiet (fail); try go_wp2)
           go_ret
           exact ⟨by first | rfl | (simp; done) | (simp [*]; done), by repeat (first | exact Drawn0.refl _ | apply Drawn0.step)⟩
          ·rw [if_neg c9] at H
           have c9b0 : decide ((l0.length : Int) ≤ (rd l0 x4_2)) = false := decide_eq_false c9
           clear c9
           by_cases c10 : (rd l0 x4_2) = x4_2
           ·rw [if_pos c10] at H
            have c10b0 : ((rd l0 x4_2) == x4_2) = true := beq_iff_eq.mpr c10
            have c10b1 : ((rd l0 x4_2) != x4_2) = false := bne_eq_false_iff_eq.mpr c10
            clear c10
            obtain rfl := Option.some.inj H
            have p264 : 0 ≤ (x4_2 : Int) := of_decide_eq_true (by first | (with_reducible assumption) | assumption)
            have q264 : x4_2 < (l0.length : Int) := of_decide_eq_true (by first | (with_reducible assumption) | assumption)
            obtain ⟨ad264, e264, hx264_0⟩ := Kd.at_int HR0.out x4_2 p264 q264
            cases e264
            replace p264 := eq_true p264
            replace q264 := eq_true q264
            have p265 : 0 ≤ (x4_2 : Int) := of_decide_eq_true (by first | (with_reducible assumption) | assumption)
            have q265 : x4_2 < (l0.length : Int) := of_decide_eq_true (by first | (with_reducible assumption) | assumption)
            obtain ⟨ad265, e265, hx265_0⟩ := Kd.at_int HR0.out x4_2 p265 q265
            obtain rfl : ad264 = ad265 := (by injection e265)
            replace p265 := eq_true p265
            replace q265 := eq_true q265
            have p266 : 0 ≤ (x4_2 : Int) := of_decide_eq_true (by first | (with_reducible assumption) | assumption)
            have q266 : x4_2 < (l0.length : Int) := of_decide_eq_true (by first | (with_reducible assumption) | assumption)
            obtain ⟨ad266, e266, hx266_0⟩ := Kd.at_int HR0.out x4_2 p266 q266
            obtain rfl : ad264 = ad266 := (by injection e266)
            replace p266 := eq_true p266
            replace q266 := eq_true q266
            go_wp2
            repeat (go_quiet (fail); try go_wp2)
            go_ret
            exact ⟨by first | rfl | (simp; done) | (simp [*]; done), by repeat (first | exact Drawn0.refl _ | apply Drawn0.step)⟩
           ·rw [if_neg c10] at H
            have c10b0 : ((rd l0 x4_2) == x4_2) = false := beq_eq_false_iff_ne.mpr c10
            have c10b1 : ((rd l0 x4_2) != x4_2) = true := bne_iff_ne.mpr c10
            by_cases c11 : 0 ≤ (rd l0 x4_2)
            ·rw [if_pos c11] at H
             have c11b0 : decide (0 ≤ (rd l0 x4_2)) = true := decide_eq_true c11
             clear c11
             by_cases c12 : (rd l0 x4_2) < (l0.length : Int)
             ·rw [if_pos c12] at H
              have c12b0 : decide ((rd l0 x4_2) < (l0.length : Int)) = true := decide_eq_true c12
              clear c12
              by_cases c13 : (rd l0 (rd l0 x4_2)) = x4_2
              ·rw [if_pos c13] at H
               have c13b0 : ((rd l0 (rd l0 x4_2)) == x4_2) = true := beq_iff_eq.mpr c13
               have c13b1 : ((rd l0 (rd l0 x4_2)) != x4_2) = false := bne_eq_false_iff_eq.mpr c13
               clear c13
               have H' := Aside0.mk H
               clear H
               have p264 : 0 ≤ (x4_2 : Int) := of_decide_eq_true (by first | (with_reducible assumption) | assumption)
               have q264 : x4_2 < (l0.length : Int) := of_decide_eq_true (by first | (with_reducible assumption) | assumption)
               obtain ⟨ad264, e264, hx264_0⟩ := Kd.at_int HR0.out x4_2 p264 q264
               cases e264
               replace p264 := eq_true p264
               replace q264 := eq_true q264
               have p265 : 0 ≤ (x4_2 : Int) := of_decide_eq_true (by first | (with_reducible assumption) | assumption)
               have q265 : x4_2 < (l0.length : Int) := of_decide_eq_true (by first | (with_reducible assumption) | assumption)
               obtain ⟨ad265, e265, hx265_0⟩ := Kd.at_int HR0.out x4_2 p265 q265
               obtain rfl : ad264 = ad265 := (by injection e265)
               replace p265 := eq_true p265
               replace q265 := eq_true q265
               have p266 : 0 ≤ (x4_2 : Int) := of_decide_eq_true (by first | (with_reducible assumption) | assumption)
               have q266 : x4_2 < (l0.length : Int) := of_decide_eq_true (by first | (with_reducible assumption) | assumption)
               obtain ⟨ad266, e266, hx266_0⟩ := Kd.at_int HR0.out x4_2 p266 q266
               obtain rfl : ad264 = ad266 := (by injection e266)
               replace p266 := eq_true p266
               replace q266 := eq_true q266
               have p267 : 0 ≤ (x4_2 : Int) := of_decide_eq_true (by first | (with_reducible assumption) | assumption)
               have q267 : x4_2 < (l0.length : Int) := of_decide_eq_true (by first | (with_reducible assumption) | assumption)
               obtain ⟨ad267, e267, hx267_0⟩ := Kd.at_int HR0.out x4_2 p267 q267
               obtain rfl : ad264 = ad267 := (by injection e267)
               replace p267 := eq_true p267
               replace q267 := eq_true q267
               have p268 : 0 ≤ ((rd l0 x4_2) : Int) := of_decide_eq_true (by first | (with_reducible assumption) | assumption)
               have q268 : (rd l0 x4_2) < (l0.length : Int) := of_decide_eq_true (by first | (with_reducible assumption) | assumption)
               obtain ⟨ad268, e268, hx268_0⟩ := Kd.at_int HR0.out (rd l0 x4_2) p268 q268
               obtain rfl : ad264 = ad268 := (by injection e268)
               replace p268 := eq_true p268
               replace q268 := eq_true q268
               go_wp2
               repeat (go_quiet (fail); try go_wp2)
               go_roundg k2
               case measure => have := HJ2.out; have := HK2.out; omega
               case rel => exact ⟨(wrap64 (x4_2 + 1)), (by first | rfl | (simp; done) | (simp [*]; done)), H', ⟨by have := HJ2.out; have := HK2.out; omega⟩, by repeat (first | exact Drawn0.refl _ | apply Drawn0.step)⟩
              ·rw [if_neg c13] at H
               have c13b0 : ((rd l0 (rd l0 x4_2)) == x4_2) = false := beq_eq_false_iff_ne.mpr c13
               have c13b1 : ((rd l0 (rd l0 x4_2)) != x4_2) = true := bne_iff_ne.mpr c13
               obtain rfl := Option.some.inj H
               have p264 : 0 ≤ (x4_2 : Int) := of_decide_eq_true (by first | (with_reducible assumption) | assumption)
               have q264 : x4_2 < (l0.length : Int) := of_decide_eq_true (by first | (with_reducible assumption) | assumption)
               obtain ⟨ad264, e264, hx264_0⟩ := Kd.at_int HR0.out x4_2 p264 q264
               cases e264
               replace p264 := eq_true p264
               replace q264 := eq_true q264
               have p265 : 0 ≤ (x4_2 : Int) := of_decide_eq_true (by first | (with_reducible assumption) | assumption)
               have q265 : x4_2 < (l0.length : Int) := of_decide_eq_true (by first | (with_reducible assumption) | assumption)
               obtain ⟨ad265, e265, hx265_0⟩ := Kd.at_int HR0.out x4_2 p265 q265
               obtain rfl : ad264 = ad265 := (by injection e265)
               replace p265 := eq_true p265
               replace q265 := eq_true q265
               have p266 : 0 ≤ (x4_2 : Int) := of_decide_eq_true (by first | (with_reducible assumption) | assumption)
               have q266 : x4_2 < (l0.length : Int) := of_decide_eq_true (by first | (with_reducible assumption) | assumption)
               obtain ⟨ad266, e266, hx266_0⟩ := Kd.at_int HR0.out x4_2 p266 q266
               obtain rfl : ad264 = ad266 := (by injection e266)
               replace p266 := eq_true p266
               replace q266 := eq_true q266
               have p267 : 0 ≤ (x4_2 : Int) := of_decide_eq_true (by first | (with_reducible assumption) | assumption)
               have q267 : x4_2 < (l0.length : Int) := of_decide_eq_true (by first | (with_reducible assumption) | assumption)
               obtain ⟨ad267, e267, hx267_0⟩ := Kd.at_int HR0.out x4_2 p267 q267
               obtain rfl : ad264 = ad267 := (by injection e267)
               replace p267 := eq_true p267
               replace q267 := eq_true q267
               have p268 : 0 ≤ ((rd l0 x4_2) : Int) := of_decide_eq_true (by first | (with_reducible assumption) | assumption)
               have q268 : (rd l0 x4_2) < (l0.length : Int) := of_decide_eq_true (by first | (with_reducible assumption) | assumption)
               obtain ⟨ad268, e268, hx268_0⟩ := Kd.at_int HR0.out (rd l0 x4_2) p268 q268
               obtain rfl : ad264 = ad268 := (by injection e268)
               replace p268 := eq_true p268
               replace q268 := eq_true q268
               go_wp2
               repeat (go_quiet (fail); try go_wp2)
               go_ret
               exact ⟨by first | rfl | (simp; done) | (simp [*]; done), by repeat (first | exact Drawn0.refl _ | apply Drawn0.step)⟩
             ·rw [if_neg c12] at H
              exact absurd H (by simp)
            ·rw [if_neg c11] at H
             exact absurd H (by simp)
        ·rw [if_neg c7] at H
         exact absurd H (by simp)
       ·rw [if_neg c6] at H
        have c6b0 : decide (x4_2 < (l0.length : Int)) = false := decide_eq_false c6
        clear c6
        have H' := Aside0.mk H
        clear H
        go_wp2
        repeat (go_quiet (fail); try go_wp2)
        go_loopg [5] k2 (fun kq v5 w' => ∃ (x5_3 : Int), v5 = .int .i64 x5_3 ∧ Aside0 (pomaderef07_Diagram.l1 kq l0 (wrap64 ((l0.length : Int) / 2)) x5_3 = some r) ∧ Aside0 (kq ≤ k2) ∧ Drawn0 w w')
        case atStart => exact ⟨(0), (by first | rfl | (simp; done) | (simp [*]; done)), H', ⟨Nat.le_refl _⟩, by repeat (first | exact Drawn0.refl _ | apply Drawn0.step)⟩
        case round =>
         clear H'
         try clear c1
         try clear c2
         try clear c2b0
         try clear c2b1
         try clear p2
         try clear q2
         try clear hx2
         try clear c4
         try clear c4b0
         try clear c5
         try clear c6
         try clear c6b0
         try clear p6
         try clear c7
         try clear c7b0
         try clear c8
         try clear c8b0
         try clear c9
         try clear c9b0
         try clear c10
         try clear c10b0
         try clear c10b1
         try clear c11
         try clear c11b0
         try clear c12
         try clear c12b0
         try clear c13
         try clear c13b0
         try clear c13b1
         try clear hx264_0
         try clear hx265_0
         try clear hx266_0
         try clear hx267_0
         try clear hx268_0
         try clear p2
         try clear p264
         try clear p265
         try clear p266
         try clear p267
         try clear p268
         try clear q264
         try clear q265
         try clear q266
         try clear q267
         try clear q268
         obtain ⟨x5_3, rfl, HA, HK3, ⟨m3, rfl⟩⟩ := hrel
         cases gk with
         | zero => exact absurd HA.out (by simp [pomaderef07_Diagram.l1])
         | succ k3 =>
          have H := HA.out
          clear HA
          simp only [pomaderef07_Diagram.l1] at H
          by_cases c14 : x5_3 < (l0.length : Int)
          ·rw [if_pos c14] at H
           have c14b0 : decide (x5_3 < (l0.length : Int)) = true := decide_eq_true c14
           clear c14
           have H' := Aside0.mk H
           clear H
           go_wp2
           repeat (go_quiet (fail); try go_wp2)
           go_loopg [6] k3 (fun kq v6 w' => ∃ (x6_4 : Int), v6 = .int .i64 x6_4 ∧ Aside0 (pomaderef07_Diagram.l2 kq l0 (wrap64 ((l0.length : Int) / 2)) x5_3 x6_4 = some r) ∧ Aside0 (kq ≤ k3) ∧ Drawn0 w w')
           case atStart => exact ⟨(0), (by first | rfl | (simp; done) | (simp [*]; done)), H', ⟨Nat.le_refl _⟩, by repeat (first | exact Drawn0.refl _ | apply Drawn0.step)⟩
           case round =>
            clear H'
            try clear c1
            try clear c2
            try clear c2b0
            try clear c2b1
            try clear p2
            try clear q2
            try clear hx2
            try clear c4
            try clear c4b0
            try clear c5
            try clear c6
            try clear c6b0
            try clear p6
            try clear c7
            try clear c7b0
            try clear c8
            try clear c8b0
            try clear c9
            try clear c9b0
            try clear c10
            try clear c10b0
            try clear c10b1
            try clear c11
            try clear c11b0
            try clear c12
            try clear c12b0
            try clear c13
            try clear c13b0
            try clear c13b1
            try clear c14
            try clear c14b0
            try clear hx264_0
            try clear hx265_0
            try clear hx266_0
            try clear hx267_0
            try clear hx268_0
            try clear p2
            try clear p264
            try clear p265
            try clear p266
            try clear p267
            try clear p268
            try clear p6
            try clear q2
            try clear q264
            try clear q265
            try clear q266
            try clear q267
            try clear q268
            obtain ⟨x6_4, rfl, HA, HK4, ⟨m4, rfl⟩⟩ := hrel
            cases gk with
            | zero => exact absurd HA.out (by simp [pomaderef07_Diagram.l2])
            | succ k4 =>
             have H := HA.out
             clear HA
             simp only [pomaderef07_Diagram.l2] at H
             by_cases c15 : x6_4 < (l0.length : Int)
             ·rw [if_pos c15] at H
              have c15b0 : decide (x6_4 < (l0.length : Int)) = true := decide_eq_true c15
              clear c15
              replace H := Option.bind_eq_some_iff.mp H
              obtain ⟨t269, A160, H⟩ := H
              replace H : (if 0 ≤ x5_3 then (if x5_3 < (l0.length : Int) then ((pomaderef07_border.f (wrap64 ((l0.length : Int) / 2)) (rd l0 x5_3)).bind fun t271 => ((pomaderef07_border.f (wrap64 ((l0.length : Int) / 2)) x6_4).bind fun t272 => (if 0 ≤ x6_4 then ((pomaderef07_border.f (wrap64 ((l0.length : Int) / 2)) (rd l0 x6_4)).bind fun t274 => (if t269 < t272 then (if t272 < t271 then (if t271 < t274 then (some 2) else (pomaderef07_Diagram.l2 k4 l0 (wrap64 ((l0.length : Int) / 2)) x5_3 (wrap64 (x6_4 + 1)))) else (pomaderef07_Diagram.l2 k4 l0 (wrap64 ((l0.length : Int) / 2)) x5_3 (wrap64 (x6_4 + 1)))) else (pomaderef07_Diagram.l2 k4 l0 (wrap64 ((l0.length : Int) / 2)) x5_3 (wrap64 (x6_4 + 1))))) else (none)))) else (none)) else (none)) = some r := H
              have A16 := Aside0.mk A160
              clear A160
              by_cases c17 : 0 ≤ x5_3
              ·rw [if_pos c17] at H
               have c17b0 : decide (0 ≤ x5_3) = true := decide_eq_true c17
               clear c17
               by_cases c18 : x5_3 < (l0.length : Int)
               ·rw [if_pos c18] at H
                have c18b0 : decide (x5_3 < (l0.length : Int)) = true := decide_eq_true c18
                clear c18
                replace H := Option.bind_eq_some_iff.mp H
                obtain ⟨t271, A190, H⟩ := H
                replace H : ((pomaderef07_border.f (wrap64 ((l0.length : Int) / 2)) x6_4).bind fun t272 => (if 0 ≤ x6_4 then ((pomaderef07_border.f (wrap64 ((l0.length : Int) / 2)) (rd l0 x6_4)).bind fun t274 => (if t269 < t272 then (if t272 < t271 then (if t271 < t274 then (some 2) else (pomaderef07_Diagram.l2 k4 l0 (wrap64 ((l0.length : Int) / 2)) x5_3 (wrap64 (x6_4 + 1)))) else (pomaderef07_Diagram.l2 k4 l0 (wrap64 ((l0.length : Int) / 2)) x5_3 (wrap64 (x6_4 + 1)))) else (pomaderef07_Diagram.l2 k4 l0 (wrap64 ((l0.length : Int) / 2)) x5_3 (wrap64 (x6_4 + 1))))) else (none))) = some r := H
                have A19 := Aside0.mk A190
                clear A190
                replace H := Option.bind_eq_some_iff.mp H
                obtain ⟨t272, A200, H⟩ := H
                replace H : (if 0 ≤ x6_4 then ((pomaderef07_border.f (wrap64 ((l0.length : Int) / 2)) (rd l0 x6_4)).bind fun t274 => (if t269 < t272 then (if t272 < t271 then (if t271 < t274 then (some 2) else (pomaderef07_Diagram.l2 k4 l0 (wrap64 ((l0.length : Int) / 2)) x5_3 (wrap64 (x6_4 + 1)))) else (pomaderef07_Diagram.l2 k4 l0 (wrap64 ((l0.length : Int) / 2)) x5_3 (wrap64 (x6_4 + 1)))) else (pomaderef07_Diagram.l2 k4 l0 (wrap64 ((l0.length : Int) / 2)) x5_3 (wrap64 (x6_4 + 1))))) else (none)) = some r := H
                have A20 := Aside0.mk A200
                clear A200
                by_cases c21 : 0 ≤ x6_4
                ·rw [if_pos c21] at H
                 have c21b0 : decide (0 ≤ x6_4) = true := decide_eq_true c21
                 clear c21
                 replace H := Option.bind_eq_some_iff.mp H
                 obtain ⟨t274, A220, H⟩ := H
                 replace H : (if t269 < t272 then (if t272 < t271 then (if t271 < t274 then (some 2) else (pomaderef07_Diagram.l2 k4 l0 (wrap64 ((l0.length : Int) / 2)) x5_3 (wrap64 (x6_4 + 1)))) else (pomaderef07_Diagram.l2 k4 l0 (wrap64 ((l0.length : Int) / 2)) x5_3 (wrap64 (x6_4 + 1)))) else (pomaderef07_Diagram.l2 k4 l0 (wrap64 ((l0.length : Int) / 2)) x5_3 (wrap64 (x6_4 + 1)))) = some r := H
                 have A22 := Aside0.mk A220
                 clear A220
                 by_cases c23 : t269 < t272
                 ·rw [if_pos c23] at H
                  have c23b0 : decide (t269 < t272) = true := decide_eq_true c23
                  clear c23
                  by_cases c24 : t272 < t271
                  ·rw [if_pos c24] at H
                   have c24b0 : decide (t272 < t271) = true := decide_eq_true c24
                   clear c24
                   by_cases c25 : t271 < t274
                   ·rw [if_pos c25] at H
                    have c25b0 : decide (t271 < t274) = true := decide_eq_true c25
                    clear c25
                    obtain rfl := Option.some.inj H
                    go_wp2_with (first | (go_at_call 53; (with_reducible refine (pomaderef07_border.calls (wrap64 ((l0.length : Int) / 2)) x5_3 t269 _ A16.out).mono ?_); rintro e w' ⟨rfl, ⟨nd, rfl⟩⟩; (try first | exact ⟨rfl, _, World.drewN_drewN _ _ _⟩ | exact ⟨rfl, _, Eq.trans (World.drewN_drewN _ _ _) (congrArg (World.drewN _) (Nat.add_assoc _ _ _))⟩); have p270 : 0 ≤ (x5_3 : Int) := of_decide_eq_true (by first | (with_reducible assumption) | assumption); have q270 : x5_3 < (l0.length : Int) := of_decide_eq_true (by first | (with_reducible assumption) | assumption); obtain ⟨ad270, e270, hx270_0⟩ := Kd.at_int HR0.out x5_3 p270 q270; cases e270; replace p270 := eq_true p270; replace q270 := eq_true q270) | (go_at_call 53; (with_reducible refine (pomaderef07_border.calls (wrap64 ((l0.length : Int) / 2)) (rd l0 x5_3) t271 _ A19.out).mono ?_); rintro e w' ⟨rfl, ⟨nd, rfl⟩⟩; (try first | exact ⟨rfl, _, World.drewN_drewN _ _ _⟩ | exact ⟨rfl, _, Eq.trans (World.drewN_drewN _ _ _) (congrArg (World.drewN _) (Nat.add_assoc _ _ _))⟩)) | (go_at_call 53; (with_reducible refine (pomaderef07_border.calls (wrap64 ((l0.length : Int) / 2)) x6_4 t272 _ A20.out).mono ?_); rintro e w' ⟨rfl, ⟨nd, rfl⟩⟩; (try first | exact ⟨rfl, _, World.drewN_drewN _ _ _⟩ | exact ⟨rfl, _, Eq.trans (World.drewN_drewN _ _ _) (congrArg (World.drewN _) (Nat.add_assoc _ _ _))⟩); have p273 : 0 ≤ (x6_4 : Int) := of_decide_eq_true (by first | (with_reducible assumption) | assumption); have q273 : x6_4 < (l0.length : Int) := of_decide_eq_true (by first | (with_reducible assumption) | assumption); obtain ⟨ad273, e273, hx273_0⟩ := Kd.at_int HR0.out x6_4 p273 q273; obtain rfl : ad270 = ad273 := (by injection e273); replace p273 := eq_true p273; replace q273 := eq_true q273) | (go_at_call 53; (with_reducible refine (pomaderef07_border.calls (wrap64 ((l0.length : Int) / 2)) (rd l0 x6_4) t274 _ A22.out).mono ?_); rintro e w' ⟨rfl, ⟨nd, rfl⟩⟩; (try first | exact ⟨rfl, _, World.drewN_drewN _ _ _⟩ | exact ⟨rfl, _, Eq.trans (World.drewN_drewN _ _ _) (congrArg (World.drewN _) (Nat.add_assoc _ _ _))⟩)))
                    repeat (go_quiet (first | (go_at_call 53; (with_reducible refine (pomaderef07_border.calls (wrap64 ((l0.length : Int) / 2)) x5_3 t269 _ A16.out).mono ?_); rintro e w' ⟨rfl, ⟨nd, rfl⟩⟩; (try first | exact ⟨rfl, _, World.drewN_drewN _ _ _⟩ | exact ⟨rfl, _, Eq.trans (World.drewN_drewN _ _ _) (congrArg (World.drewN _) (Nat.add_assoc _ _ _))⟩); have p270 : 0 ≤ (x5_3 : Int) := of_decide_eq_true (by first | (with_reducible assumption) | assumption); have q270 : x5_3 < (l0.length : Int) := of_decide_eq_true (by first | (with_reducible assumption) | assumption); obtain ⟨ad270, e270, hx270_0⟩ := Kd.at_int HR0.out x5_3 p270 q270; cases e270; replace p270 := eq_true p270; replace q270 := eq_true q270) | (go_at_call 53; (with_reducible refine (pomaderef07_border.calls (wrap64 ((l0.length : Int) / 2)) (rd l0 x5_3) t271 _ A19.out).mono ?_); rintro e w' ⟨rfl, ⟨nd, rfl⟩⟩; (try first | exact ⟨rfl, _, World.drewN_drewN _ _ _⟩ | exact ⟨rfl, _, Eq.trans (World.drewN_drewN _ _ _) (congrArg (World.drewN _) (Nat.add_assoc _ _ _))⟩)) | (go_at_call 53; (with_reducible refine (pomaderef07_border.calls (wrap64 ((l0.length : Int) / 2)) x6_4 t272 _ A20.out).mono ?_); rintro e w' ⟨rfl, ⟨nd, rfl⟩⟩; (try first | exact ⟨rfl, _, World.drewN_drewN _ _ _⟩ | exact ⟨rfl, _, Eq.trans (World.drewN_drewN _ _ _) (congrArg (World.drewN _) (Nat.add_assoc _ _ _))⟩); have p273 : 0 ≤ (x6_4 : Int) := of_decide_eq_true (by first | (with_reducible assumption) | assumption); have q273 : x6_4 < (l0.length : Int) := of_decide_eq_true (by first | (with_reducible assumption) | assumption); obtain ⟨ad273, e273, hx273_0⟩ := Kd.at_int HR0.out x6_4 p273 q273; obtain rfl : ad270 = ad273 := (by injection e273); replace p273 := eq_true p273; replace q273 := eq_true q273) | (go_at_call 53; (with_reducible refine (pomaderef07_border.calls (wrap64 ((l0.length : Int) / 2)) (rd l0 x6_4) t274 _ A22.out).mono ?_); rintro e w' ⟨rfl, ⟨nd, rfl⟩⟩; (try first | exact ⟨rfl, _, World.drewN_drewN _ _ _⟩ | exact ⟨rfl, _, Eq.trans (World.drewN_drewN _ _ _) (congrArg (World.drewN _) (Nat.add_assoc _ _ _))⟩))); try go_wp2_with (first | (go_at_call 53; (with_reducible refine (pomaderef07_border.calls (wrap64 ((l0.length : Int) / 2)) x5_3 t269 _ A16.out).mono ?_); rintro e w' ⟨rfl, ⟨nd, rfl⟩⟩; (try first | exact ⟨rfl, _, World.drewN_drewN _ _ _⟩ | exact ⟨rfl, _, Eq.trans (World.drewN_drewN _ _ _) (congrArg (World.drewN _) (Nat.add_assoc _ _ _))⟩); have p270 : 0 ≤ (x5_3 : Int) := of_decide_eq_true (by first | (with_reducible assumption) | assumption); have q270 : x5_3 < (l0.length : Int) := of_decide_eq_true (by first | (with_reducible assumption) | assumption); obtain ⟨ad270, e270, hx270_0⟩ := Kd.at_int HR0.out x5_3 p270 q270; cases e270; replace p270 := eq_true p270; replace q270 := eq_true q270) | (go_at_call 53; (with_reducible refine (pomaderef07_border.calls (wrap64 ((l0.length : Int) / 2)) (rd l0 x5_3) t271 _ A19.out).mono ?_); rintro e w' ⟨rfl, ⟨nd, rfl⟩⟩; (try first | exact ⟨rfl, _, World.drewN_drewN _ _ _⟩ | exact ⟨rfl, _, Eq.trans (World.drewN_drewN _ _ _) (congrArg (World.drewN _) (Nat.add_assoc _ _ _))⟩)) | (go_at_call 53; (with_reducible refine (pomaderef07_border.calls (wrap64 ((l0.length : Int) / 2)) x6_4 t272 _ A20.out).mono ?_); rintro e w' ⟨rfl, ⟨nd, rfl⟩⟩; (try first | exact ⟨rfl, _, World.drewN_drewN _ _ _⟩ | exact ⟨rfl, _, Eq.trans (World.drewN_drewN _ _ _) (congrArg (World.drewN _) (Nat.add_assoc _ _ _))⟩); have p273 : 0 ≤ (x6_4 : Int) := of_decide_eq_true (by first | (with_reducible assumption) | assumption); have q273 : x6_4 < (l0.length : Int) := of_decide_eq_true (by first | (with_reducible assumption) | assumption); obtain ⟨ad273, e273, hx273_0⟩ := Kd.at_int HR0.out x6_4 p273 q273; obtain rfl : ad270 = ad273 := (by injection e273); replace p273 := eq_true p273; replace q273 := eq_true q273) | (go_at_call 53; (with_reducible refine (pomaderef07_border.calls (wrap64 ((l0.length : Int) / 2)) (rd l0 x6_4) t274 _ A22.out).mono ?_); rintro e w' ⟨rfl, ⟨nd, rfl⟩⟩; (try first | exact ⟨rfl, _, World.drewN_drewN _ _ _⟩ | exact ⟨rfl, _, Eq.trans (World.drewN_drewN _ _ _) (congrArg (World.drewN _) (Nat.add_assoc _ _ _))⟩))))
                    go_ret
                    exact ⟨by first | rfl | (simp; done) | (simp [*]; done), by repeat (first | exact Drawn0.refl _ | apply Drawn0.step)⟩
                   ·rw [if_neg c25] at H
                    have c25b0 : decide (t271 < t274) = false := decide_eq_false c25
                    clear c25
                    have H' := Aside0.mk H
                    clear H
                    go_wp2_with (first | (go_at_call 53; (with_reducible refine (pomaderef07_border.calls (wrap64 ((l0.length : Int) / 2)) x5_3 t269 _ A16.out).mono ?_); rintro e w' ⟨rfl, ⟨nd, rfl⟩⟩; (try first | exact ⟨rfl, _, World.drewN_drewN _ _ _⟩ | exact ⟨rfl, _, Eq.trans (World.drewN_drewN _ _ _) (congrArg (World.drewN _) (Nat.add_assoc _ _ _))⟩); have p270 : 0 ≤ (x5_3 : Int) := of_decide_eq_true (by first | (with_reducible assumption) | assumption); have q270 : x5_3 < (l0.length : Int) := of_decide_eq_true (by first | (with_reducible assumption) | assumption); obtain ⟨ad270, e270, hx270_0⟩ := Kd.at_int HR0.out x5_3 p270 q270; cases e270; replace p270 := eq_true p270; replace q270 := eq_true q270) | (go_at_call 53; (with_reducible refine (pomaderef07_border.calls (wrap64 ((l0.length : Int) / 2)) (rd l0 x5_3) t271 _ A19.out).mono ?_); rintro e w' ⟨rfl, ⟨nd, rfl⟩⟩; (try first | exact ⟨rfl, _, World.drewN_drewN _ _ _⟩ | exact ⟨rfl, _, Eq.trans (World.drewN_drewN _ _ _) (congrArg (World.drewN _) (Nat.add_assoc _ _ _))⟩)) | (go_at_call 53; (with_reducible refine (pomaderef07_border.calls (wrap64 ((l0.length : Int) / 2)) x6_4 t272 _ A20.out).mono ?_); rintro e w' ⟨rfl, ⟨nd, rfl⟩⟩; (try first | exact ⟨rfl, _, World.drewN_drewN _ _ _⟩ | exact ⟨rfl, _, Eq.trans (World.drewN_drewN _ _ _) (congrArg (World.drewN _) (Nat.add_assoc _ _ _))⟩); have p273 : 0 ≤ (x6_4 : Int) := of_decide_eq_true (by first | (with_reducible assumption) | assumption); have q273 : x6_4 < (l0.length : Int) := of_decide_eq_true (by first | (with_reducible assumption) | assumption); obtain ⟨ad273, e273, hx273_0⟩ := Kd.at_int HR0.out x6_4 p273 q273; obtain rfl : ad270 = ad273 := (by injection e273); replace p273 := eq_true p273; replace q273 := eq_true q273) | (go_at_call 53; (with_reducible refine (pomaderef07_border.calls (wrap64 ((l0.length : Int) / 2)) (rd l0 x6_4) t274 _ A22.out).mono ?_); rintro e w' ⟨rfl, ⟨nd, rfl⟩⟩; (try first | exact ⟨rfl, _, World.drewN_drewN _ _ _⟩ | exact ⟨rfl, _, Eq.trans (World.drewN_drewN _ _ _) (congrArg (World.drewN _) (Nat.add_assoc _ _ _))⟩)))
                    repeat (go_quiet (first | (go_at_call 53; (with_reducible refine (pomaderef07_border.calls (wrap64 ((l0.length : Int) / 2)) x5_3 t269 _ A16.out).mono ?_); rintro e w' ⟨rfl, ⟨nd, rfl⟩⟩; (try first | exact ⟨rfl, _, World.drewN_drewN _ _ _⟩ | exact ⟨rfl, _, Eq.trans (World.drewN_drewN _ _ _) (congrArg (World.drewN _) (Nat.add_assoc _ _ _))⟩); have p270 : 0 ≤ (x5_3 : Int) := of_decide_eq_true (by first | (with_reducible assumption) | assumption); have q270 : x5_3 < (l0.length : Int) := of_decide_eq_true (by first | (with_reducible assumption) | assumption); obtain ⟨ad270, e270, hx270_0⟩ := Kd.at_int HR0.out x5_3 p270 q270; cases e270; replace p270 := eq_true p270; replace q270 := eq_true q270) | (go_at_call 53; (with_reducible refine (pomaderef07_border.calls (wrap64 ((l0.length : Int) / 2)) (rd l0 x5_3) t271 _ A19.out).mono ?_); rintro e w' ⟨rfl, ⟨nd, rfl⟩⟩; (try first | exact ⟨rfl, _, World.drewN_drewN _ _ _⟩ | exact ⟨rfl, _, Eq.trans (World.drewN_drewN _ _ _) (congrArg (World.drewN _) (Nat.add_assoc _ _ _))⟩)) | (go_at_call 53; (with_reducible refine (pomaderef07_border.calls (wrap64 ((l0.length : Int) / 2)) x6_4 t272 _ A20.out).mono ?_); rintro e w' ⟨rfl, ⟨nd, rfl⟩⟩; (try first | exact ⟨rfl, _, World.drewN_drewN _ _ _⟩ | exact ⟨rfl, _, Eq.trans (World.drewN_drewN _ _ _) (congrArg (World.drewN _) (Nat.add_assoc _ _ _))⟩); have p273 : 0 ≤ (x6_4 : Int) := of_decide_eq_true (by first | (with_reducible assumption) | assumption); have q273 : x6_4 < (l0.length : Int) := of_decide_eq_true (by first | (with_reducible assumption) | assumption); obtain ⟨ad273, e273, hx273_0⟩ := Kd.at_int HR0.out x6_4 p273 q273; obtain rfl : ad270 = ad273 := (by injection e273); replace p273 := eq_true p273; replace q273 := eq_true q273) | (go_at_call 53; (with_reducible refine (pomaderef07_border.calls (wrap64 ((l0.length : Int) / 2)) (rd l0 x6_4) t274 _ A22.out).mono ?_); rintro e w' ⟨rfl, ⟨nd, rfl⟩⟩; (try first | exact ⟨rfl, _, World.drewN_drewN _ _ _⟩ | exact ⟨rfl, _, Eq.trans (World.drewN_drewN _ _ _) (congrArg (World.drewN _) (Nat.add_assoc _ _ _))⟩))); try go_wp2_with (first | (go_at_call 53; (with_reducible refine (pomaderef07_border.calls (wrap64 ((l0.length : Int) / 2)) x5_3 t269 _ A16.out).mono ?_); rintro e w' ⟨rfl, ⟨nd, rfl⟩⟩; (try first | exact ⟨rfl, _, World.drewN_drewN _ _ _⟩ | exact ⟨rfl, _, Eq.trans (World.drewN_drewN _ _ _) (congrArg (World.drewN _) (Nat.add_assoc _ _ _))⟩); have p270 : 0 ≤ (x5_3 : Int) := of_decide_eq_true (by first | (with_reducible assumption) | assumption); have q270 : x5_3 < (l0.length : Int) := of_decide_eq_true (by first | (with_reducible assumption) | assumption); obtain ⟨ad270, e270, hx270_0⟩ := Kd.at_int HR0.out x5_3 p270 q270; cases e270; replace p270 := eq_true p270; replace q270 := eq_true q270) | (go_at_call 53; (with_reducible refine (pomaderef07_border.calls (wrap64 ((l0.length : Int) / 2)) (rd l0 x5_3) t271 _ A19.out).mono ?_); rintro e w' ⟨rfl, ⟨nd, rfl⟩⟩; (try first | exact ⟨rfl, _, World.drewN_drewN _ _ _⟩ | exact ⟨rfl, _, Eq.trans (World.drewN_drewN _ _ _) (congrArg (World.drewN _) (Nat.add_assoc _ _ _))⟩)) | (go_at_call 53; (with_reducible refine (pomaderef07_border.calls (wrap64 ((l0.length : Int) / 2)) x6_4 t272 _ A20.out).mono ?_); rintro e w' ⟨rfl, ⟨nd, rfl⟩⟩; (try first | exact ⟨rfl, _, World.drewN_drewN _ _ _⟩ | exact ⟨rfl, _, Eq.trans (World.drewN_drewN _ _ _) (congrArg (World.drewN _) (Nat.add_assoc _ _ _))⟩); have p273 : 0 ≤ (x6_4 : Int) := of_decide_eq_true (by first | (with_reducible assumption) | assumption); have q273 : x6_4 < (l0.length : Int) := of_decide_eq_true (by first | (with_reducible assumption) | assumption); obtain ⟨ad273, e273, hx273_0⟩ := Kd.at_int HR0.out x6_4 p273 q273; obtain rfl : ad270 = ad273 := (by injection e273); replace p273 := eq_true p273; replace q273 := eq_true q273) | (go_at_call 53; (with_reducible refine (pomaderef07_border.calls (wrap64 ((l0.length : Int) / 2)) (rd l0 x6_4) t274 _ A22.out).mono ?_); rintro e w' ⟨rfl, ⟨nd, rfl⟩⟩; (try first | exact ⟨rfl, _, World.drewN_drewN _ _ _⟩ | exact ⟨rfl, _, Eq.trans (World.drewN_drewN _ _ _) (congrArg (World.drewN _) (Nat.add_assoc _ _ _))⟩))))
                    go_roundg k4
                    case measure => have := HJ2.out; have := HK2.out; have := HK3.out; have := HK4.out; omega
                    case rel => exact ⟨(wrap64 (x6_4 + 1)), (by first | rfl | (simp; done) | (simp [*]; done)), H', ⟨by have := HJ2.out; have := HK2.out; have := HK3.out; have := HK4.out; omega⟩, by repeat (first | exact Drawn0.refl _ | apply Drawn0.step)⟩
                  ·rw [if_neg c24] at H
                   have c24b0 : decide (t272 < t271) = false := decide_eq_false c24
                   clear c24
                   have H' := Aside0.mk H
                   clear H
                   go_wp2_with (first | (go_at_call 53; (with_reducible refine (pomaderef07_border.calls (wrap64 ((l0.length : Int) / 2)) x5_3 t269 _ A16.out).mono ?_); rintro e w' ⟨rfl, ⟨nd, rfl⟩⟩; (try first | exact ⟨rfl, _, World.drewN_drewN _ _ _⟩ | exact ⟨rfl, _, Eq.trans (World.drewN_drewN _ _ _) (congrArg (World.drewN _) (Nat.add_assoc _ _ _))⟩); have p270 : 0 ≤ (x5_3 : Int) := of_decide_eq_true (by first | (with_reducible assumption) | assumption); have q270 : x5_3 < (l0.length : Int) := of_decide_eq_true (by first | (with_reducible assumption) | assumption); obtain ⟨ad270, e270, hx270_0⟩ := Kd.at_int HR0.out x5_3 p270 q270; cases e270; replace p270 := eq_true p270; replace q270 := eq_true q270) | (go_at_call 53; (with_reducible refine (pomaderef07_border.calls (wrap64 ((l0.length : Int) / 2)) (rd l0 x5_3) t271 _ A19.out).mono ?_); rintro e w' ⟨rfl, ⟨nd, rfl⟩⟩; (try first | exact ⟨rfl, _, World.drewN_drewN _ _ _⟩ | exact ⟨rfl, _, Eq.trans (World.drewN_drewN _ _ _) (congrArg (World.drewN _) (Nat.add_assoc _ _ _))⟩)) | (go_at_call 53; (with_reducible refine (pomaderef07_border.calls (wrap64 ((l0.length : Int) / 2)) x6_4 t272 _ A20.out).mono ?_); rintro e w' ⟨rfl, ⟨nd, rfl⟩⟩; (try first | exact ⟨rfl, _, World.drewN_drewN _ _ _⟩ | exact ⟨rfl, _, Eq.trans (World.drewN_drewN _ _ _) (congrArg (World.drewN _) (Nat.add_assoc _ _ _))⟩); have p273 : 0 ≤ (x6_4 : Int) := of_decide_eq_true (by first | (with_reducible assumption) | assumption); have q273 : x6_4 < (l0.length : Int) := of_decide_eq_true (by first | (with_reducible assumption) | assumption); obtain ⟨ad273, e273, hx273_0⟩ := Kd.at_int HR0.out x6_4 p273 q273; obtain rfl : ad270 = ad273 := (by injection e273); replace p273 := eq_true p273; replace q273 := eq_true q273) | (go_at_call 53; (with_reducible refine (pomaderef07_border.calls (wrap64 ((l0.length : Int) / 2)) (rd l0 x6_4) t274 _ A22.out).mono ?_); rintro e w' ⟨rfl, ⟨nd, rfl⟩⟩; (try first | exact ⟨rfl, _, World.drewN_drewN _ _ _⟩ | exact ⟨rfl, _, Eq.trans (World.drewN_drewN _ _ _) (congrArg (World.drewN _) (Nat.add_assoc _ _ _))⟩)))
                   repeat (go_quiet (first | (go_at_call 53; (with_reducible refine (pomaderef07_border.calls (wrap64 ((l0.length : Int) / 2)) x5_3 t269 _ A16.out).mono ?_); rintro e w' ⟨rfl, ⟨nd, rfl⟩⟩; (try first | exact ⟨rfl, _, World.drewN_drewN _ _ _⟩ | exact ⟨rfl, _, Eq.trans (World.drewN_drewN _ _ _) (congrArg (World.drewN _) (Nat.add_assoc _ _ _))⟩); have p270 : 0 ≤ (x5_3 : Int) := of_decide_eq_true (by first | (with_reducible assumption) | assumption); have q270 : x5_3 < (l0.length : Int) := of_decide_eq_true (by first | (with_reducible assumption) | assumption); obtain ⟨ad270, e270, hx270_0⟩ := Kd.at_int HR0.out x5_3 p270 q270; cases e270; replace p270 := eq_true p270; replace q270 := eq_true q270) | (go_at_call 53; (with_reducible refine (pomaderef07_border.calls (wrap64 ((l0.length : Int) / 2)) (rd l0 x5_3) t271 _ A19.out).mono ?_); rintro e w' ⟨rfl, ⟨nd, rfl⟩⟩; (try first | exact ⟨rfl, _, World.drewN_drewN _ _ _⟩ | exact ⟨rfl, _, Eq.trans (World.drewN_drewN _ _ _) (congrArg (World.drewN _) (Nat.add_assoc _ _ _))⟩)) | (go_at_call 53; (with_reducible refine (pomaderef07_border.calls (wrap64 ((l0.length : Int) / 2)) x6_4 t272 _ A20.out).mono ?_); rintro e w' ⟨rfl, ⟨nd, rfl⟩⟩; (try first | exact ⟨rfl, _, World.drewN_drewN _ _ _⟩ | exact ⟨rfl, _, Eq.trans (World.drewN_drewN _ _ _) (congrArg (World.drewN _) (Nat.add_assoc _ _ _))⟩); have p273 : 0 ≤ (x6_4 : Int) := of_decide_eq_true (by first | (with_reducible assumption) | assumption); have q273 : x6_4 < (l0.length : Int) := of_decide_eq_true (by first | (with_reducible assumption) | assumption); obtain ⟨ad273, e273, hx273_0⟩ := Kd.at_int HR0.out x6_4 p273 q273; obtain rfl : ad270 = ad273 := (by injection e273); replace p273 := eq_true p273; replace q273 := eq_true q273) | (go_at_call 53; (with_reducible refine (pomaderef07_border.calls (wrap64 ((l0.length : Int) / 2)) (rd l0 x6_4) t274 _ A22.out).mono ?_); rintro e w' ⟨rfl, ⟨nd, rfl⟩⟩; (try first | exact ⟨rfl, _, World.drewN_drewN _ _ _⟩ | exact ⟨rfl, _, Eq.trans (World.drewN_drewN _ _ _) (congrArg (World.drewN _) (Nat.add_assoc _ _ _))⟩))); try go_wp2_with (first | (go_at_call 53; (with_reducible refine (pomaderef07_border.calls (wrap64 ((l0.length : Int) / 2)) x5_3 t269 _ A16.out).mono ?_); rintro e w' ⟨rfl, ⟨nd, rfl⟩⟩; (try first | exact ⟨rfl, _, World.drewN_drewN _ _ _⟩ | exact ⟨rfl, _, Eq.trans (World.drewN_drewN _ _ _) (congrArg (World.drewN _) (Nat.add_assoc _ _ _))⟩); have p270 : 0 ≤ (x5_3 : Int) := of_decide_eq_true (by first | (with_reducible assumption) | assumption); have q270 : x5_3 < (l0.length : Int) := of_decide_eq_true (by first | (with_reducible assumption) | assumption); obtain ⟨ad270, e270, hx270_0⟩ := Kd.at_int HR0.out x5_3 p270 q270; cases e270; replace p270 := eq_true p270; replace q270 := eq_true q270) | (go_at_call 53; (with_reducible refine (pomaderef07_border.calls (wrap64 ((l0.length : Int) / 2)) (rd l0 x5_3) t271 _ A19.out).mono ?_); rintro e w' ⟨rfl, ⟨nd, rfl⟩⟩; (try first | exact ⟨rfl, _, World.drewN_drewN _ _ _⟩ | exact ⟨rfl, _, Eq.trans (World.drewN_drewN _ _ _) (congrArg (World.drewN _) (Nat.add_assoc _ _ _))⟩)) | (go_at_call 53; (with_reducible refine (pomaderef07_border.calls (wrap64 ((l0.length : Int) / 2)) x6_4 t272 _ A20.out).mono ?_); rintro e w' ⟨rfl, ⟨nd, rfl⟩⟩; (try first | exact ⟨rfl, _, World.drewN_drewN _ _ _⟩ | exact ⟨rfl, _, Eq.trans (World.drewN_drewN _ _ _) (congrArg (World.drewN _) (Nat.add_assoc _ _ _))⟩); have p273 : 0 ≤ (x6_4 : Int) := of_decide_eq_true (by first | (with_reducible assumption) | assumption); have q273 : x6_4 < (l0.length : Int) := of_decide_eq_true (by first | (with_reducible assumption) | assumption); obtain ⟨ad273, e273, hx273_0⟩ := Kd.at_int HR0.out x6_4 p273 q273; obtain rfl : ad270 = ad273 := (by injection e273); replace p273 := eq_true p273; replace q273 := eq_true q273) | (go_at_call 53; (with_reducible refine (pomaderef07_border.calls (wrap64 ((l0.length : Int) / 2)) (rd l0 x6_4) t274 _ A22.out).mono ?_); rintro e w' ⟨rfl, ⟨nd, rfl⟩⟩; (try first | exact ⟨rfl, _, World.drewN_drewN _ _ _⟩ | exact ⟨rfl, _, Eq.trans (World.drewN_drewN _ _ _) (congrArg (World.drewN _) (Nat.add_assoc _ _ _))⟩))))
                   go_roundg k4
                   case measure => have := HJ2.out; have := HK2.out; have := HK3.out; have := HK4.out; omega
                   case rel => exact ⟨(wrap64 (x6_4 + 1)), (by first | rfl | (simp; done) | (simp [*]; done)), H', ⟨by have := HJ2.out; have := HK2.out; have := HK3.out; have := HK4.out; omega⟩, by repeat (first | exact Drawn0.refl _ | apply Drawn0.step)⟩
                 ·rw [if_neg c23] at H
                  have c23b0 : decide (t269 < t272) = false := decide_eq_false c23
                  clear c23
                  have H' := Aside0.mk H
                  clear H
                  go_wp2_with (first | (go_at_call 53; (with_reducible refine (pomaderef07_border.calls (wrap64 ((l0.length : Int) / 2)) x5_3 t269 _ A16.out).mono ?_); rintro e w' ⟨rfl, ⟨nd, rfl⟩⟩; (try first | exact ⟨rfl, _, World.drewN_drewN _ _ _⟩ | exact ⟨rfl, _, Eq.trans (World.drewN_drewN _ _ _) (congrArg (World.drewN _) (Nat.add_assoc _ _ _))⟩); have p270 : 0 ≤ (x5_3 : Int) := of_decide_eq_true (by first | (with_reducible assumption) | assumption); have q270 : x5_3 < (l0.length : Int) := of_decide_eq_true (by first | (with_reducible assumption) | assumption); obtain ⟨ad270, e270, hx270_0⟩ := Kd.at_int HR0.out x5_3 p270 q270; cases e270; replace p270 := eq_true p270; replace q270 := eq_true q270) | (go_at_call 53; (with_reducible refine (pomaderef07_border.calls (wrap64 ((l0.length : Int) / 2)) (rd l0 x5_3) t271 _ A19.out).mono ?_); rintro e w' ⟨rfl, ⟨nd, rfl⟩⟩; (try first | exact ⟨rfl, _, World.drewN_drewN _ _ _⟩ | exact ⟨rfl, _, Eq.trans (World.drewN_drewN _ _ _) (congrArg (World.drewN _) (Nat.add_assoc _ _ _))⟩)) | (go_at_call 53; (with_reducible refine (pomaderef07_border.calls (wrap64 ((l0.length : Int) / 2)) x6_4 t272 _ A20.out).mono ?_); rintro e w' ⟨rfl, ⟨nd, rfl⟩⟩; (try first | exact ⟨rfl, _, World.drewN_drewN _ _ _⟩ | exact ⟨rfl, _, Eq.trans (World.drewN_drewN _ _ _) (congrArg (World.drewN _) (Nat.add_assoc _ _ _))⟩); have p273 : 0 ≤ (x6_4 : Int) := of_decide_eq_true (by first | (with_reducible assumption) | assumption); have q273 : x6_4 < (l0.length : Int) := of_decide_eq_true (by first | (with_reducible assumption) | assumption); obtain ⟨ad273, e273, hx273_0⟩ := Kd.at_int HR0.out x6_4 p273 q273; obtain rfl : ad270 = ad273 := (by injection e273); replace p273 := eq_true p273; replace q273 := eq_true q273) | (go_at_call 53; (with_reducible refine (pomaderef07_border.calls (wrap64 ((l0.length : Int) / 2)) (rd l0 x6_4) t274 _ A22.out).mono ?_); rintro e w' ⟨rfl, ⟨nd, rfl⟩⟩; (try first | exact ⟨rfl, _, World.drewN_drewN _ _ _⟩ | exact ⟨rfl, _, Eq.trans (World.drewN_drewN _ _ _) (congrArg (World.drewN _) (Nat.add_assoc _ _ _))⟩)))
                  repeat (go_quiet (first | (go_at_call 53; (with_reducible refine (pomaderef07_border.calls (wrap64 ((l0.length : Int) / 2)) x5_3 t269 _ A16.out).mono ?_); rintro e w' ⟨rfl, ⟨nd, rfl⟩⟩; (try first | exact ⟨rfl, _, World.drewN_drewN _ _ _⟩ | exact ⟨rfl, _, Eq.trans (World.drewN_drewN _ _ _) (congrArg (World.drewN _) (Nat.add_assoc _ _ _))⟩); have p270 : 0 ≤ (x5_3 : Int) := of_decide_eq_true (by first | (with_reducible assumption) | assumption); have q270 : x5_3 < (l0.length : Int) := of_decide_eq_true (by first | (with_reducible assumption) | assumption); obtain ⟨ad270, e270, hx270_0⟩ := Kd.at_int HR0.out x5_3 p270 q270; cases e270; replace p270 := eq_true p270; replace q270 := eq_true q270) | (go_at_call 53; (with_reducible refine (pomaderef07_border.calls (wrap64 ((l0.length : Int) / 2)) (rd l0 x5_3) t271 _ A19.out).mono ?_); rintro e w' ⟨rfl, ⟨nd, rfl⟩⟩; (try first | exact ⟨rfl, _, World.drewN_drewN _ _ _⟩ | exact ⟨rfl, _, Eq.trans (World.drewN_drewN _ _ _) (congrArg (World.drewN _) (Nat.add_assoc _ _ _))⟩)) | (go_at_call 53; (with_reducible refine (pomaderef07_border.calls (wrap64 ((l0.length : Int) / 2)) x6_4 t272 _ A20.out).mono ?_); rintro e w' ⟨rfl, ⟨nd, rfl⟩⟩; (try first | exact ⟨rfl, _, World.drewN_drewN _ _ _⟩ | exact ⟨rfl, _, Eq.trans (World.drewN_drewN _ _ _) (congrArg (World.drewN _) (Nat.add_assoc _ _ _))⟩); have p273 : 0 ≤ (x6_4 : Int) := of_decide_eq_true (by first | (with_reducible assumption) | assumption); have q273 : x6_4 < (l0.length : Int) := of_decide_eq_true (by first | (with_reducible assumption) | assumption); obtain ⟨ad273, e273, hx273_0⟩ := Kd.at_int HR0.out x6_4 p273 q273; obtain rfl : ad270 = ad273 := (by injection e273); replace p273 := eq_true p273; replace q273 := eq_true q273) | (go_at_call 53; (with_reducible refine (pomaderef07_border.calls (wrap64 ((l0.length : Int) / 2)) (rd l0 x6_4) t274 _ A22.out).mono ?_); rintro e w' ⟨rfl, ⟨nd, rfl⟩⟩; (try first | exact ⟨rfl, _, World.drewN_drewN _ _ _⟩ | exact ⟨rfl, _, Eq.trans (World.drewN_drewN _ _ _) (congrArg (World.drewN _) (Nat.add_assoc _ _ _))⟩))); try go_wp2_with (first | (go_at_call 53; (with_reducible refine (pomaderef07_border.calls (wrap64 ((l0.length : Int) / 2)) x5_3 t269 _ A16.out).mono ?_); rintro e w' ⟨rfl, ⟨nd, rfl⟩⟩; (try first | exact ⟨rfl, _, World.drewN_drewN _ _ _⟩ | exact ⟨rfl, _, Eq.trans (World.drewN_drewN _ _ _) (congrArg (World.drewN _) (Nat.add_assoc _ _ _))⟩); have p270 : 0 ≤ (x5_3 : Int) := of_decide_eq_true (by first | (with_reducible assumption) | assumption); have q270 : x5_3 < (l0.length : Int) := of_decide_eq_true (by first | (with_reducible assumption) | assumption); obtain ⟨ad270, e270, hx270_0⟩ := Kd.at_int HR0.out x5_3 p270 q270; cases e270; replace p270 := eq_true p270; replace q270 := eq_true q270) | (go_at_call 53; (with_reducible refine (pomaderef07_border.calls (wrap64 ((l0.length : Int) / 2)) (rd l0 x5_3) t271 _ A19.out).mono ?_); rintro e w' ⟨rfl, ⟨nd, rfl⟩⟩; (try first | exact ⟨rfl, _, World.drewN_drewN _ _ _⟩ | exact ⟨rfl, _, Eq.trans (World.drewN_drewN _ _ _) (congrArg (World.drewN _) (Nat.add_assoc _ _ _))⟩)) | (go_at_call 53; (with_reducible refine (pomaderef07_border.calls (wrap64 ((l0.length : Int) / 2)) x6_4 t272 _ A20.out).mono ?_); rintro e w' ⟨rfl, ⟨nd, rfl⟩⟩; (try first | exact ⟨rfl, _, World.drewN_drewN _ _ _⟩ | exact ⟨rfl, _, Eq.trans (World.drewN_drewN _ _ _) (congrArg (World.drewN _) (Nat.add_assoc _ _ _))⟩); have p273 : 0 ≤ (x6_4 : Int) := of_decide_eq_true (by first | (with_reducible assumption) | assumption); have q273 : x6_4 < (l0.length : Int) := of_decide_eq_true (by first | (with_reducible assumption) | assumption); obtain ⟨ad273, e273, hx273_0⟩ := Kd.at_int HR0.out x6_4 p273 q273; obtain rfl : ad270 = ad273 := (by injection e273); replace p273 := eq_true p273; replace q273 := eq_true q273) | (go_at_call 53; (with_reducible refine (pomaderef07_border.calls (wrap64 ((l0.length : Int) / 2)) (rd l0 x6_4) t274 _ A22.out).mono ?_); rintro e w' ⟨rfl, ⟨nd, rfl⟩⟩; (try first | exact ⟨rfl, _, World.drewN_drewN _ _ _⟩ | exact ⟨rfl, _, Eq.trans (World.drewN_drewN _ _ _) (congrArg (World.drewN _) (Nat.add_assoc _ _ _))⟩))))
                  go_roundg k4
                  case measure => have := HJ2.out; have := HK2.out; have := HK3.out; have := HK4.out; omega
                  case rel => exact ⟨(wrap64 (x6_4 + 1)), (by first | rfl | (simp; done) | (simp [*]; done)), H', ⟨by have := HJ2.out; have := HK2.out; have := HK3.out; have := HK4.out; omega⟩, by repeat (first | exact Drawn0.refl _ | apply Drawn0.step)⟩
                ·rw [if_neg c21] at H
                 exact absurd H (by simp)
               ·rw [if_neg c18] at H
                exact absurd H (by simp)
              ·rw [if_neg c17] at H
               exact absurd H (by simp)
             ·rw [if_neg c15] at H
              have c15b0 : decide (x6_4 < (l0.length : Int)) = false := decide_eq_false c15
              clear c15
              have H' := Aside0.mk H
              clear H
              go_wp2
              repeat (go_quiet (fail); try go_wp2)
              go_roundg k4
              case measure => have := HJ2.out; have := HK2.out; have := HK3.out; have := HK4.out; omega
              case rel => exact ⟨(wrap64 (x5_3 + 1)), (by first | rfl | (simp; done) | (simp [*]; done)), H', ⟨by have := HJ2.out; have := HK2.out; have := HK3.out; have := HK4.out; omega⟩, by repeat (first | exact Drawn0.refl _ | apply Drawn0.step)⟩
          ·rw [if_neg c14] at H
           have c14b0 : decide (x5_3 < (l0.length : Int)) = false := decide_eq_false c14
           clear c14
           obtain rfl := Option.some.inj H
           go_wp2
           repeat (go_quiet (fail); try go_wp2)
           go_ret
           exact ⟨by first | rfl | (simp; done) | (simp [*]; done), by repeat (first | exact Drawn0.refl _ | apply Drawn0.step)⟩
end Go.Proofs.Ytjfkompfkgjdaaa.PC
end
section
namespace Go.Proofs.Ytjfkompfkgjdaaa.PC
open Go.RowKit Go.Proofs.YtjfkompfkgjdaaaW.PrintWords Go.Proofs.YtjfkompfkgjdaaaW.PrintLast Go.Proofs.YtjfkompfkgjdaaaW.PrintMore
attribute [local go_sem] max2_int min2_int max_two min_two max_three min_three max_four min_four   -- for this text's walks alone
set_option linter.unusedVariables false
set_option linter.unusedSimpArgs false
/-! ### pomadelaw07_PlaitJones: function 16 -/
mutual
def pomadelaw07_PlaitJones.j0 : Nat → List Int → Bool → Option (Bool)
 | 0, _, _ => none
 | k + 1, x0, x20 => if x20 = true then ((pomadelaw07_alive.f).bind fun t755 => (some t755)) else ((plait_Word.f k x0).bind fun bt756 => ((plait_Hooks.f k (wrap64 ((x0.length : Int) / 2)) bt756.1).bind fun bt760 => (if bt756.2 = 0 then (if bt760.2.2 = 0 then (if bt760.2.1 = 0 then ((pomadelaw07_same.f k bt760.1 x0).bind fun t765 => (pomadelaw07_PlaitJones.j1 k bt756.1 (!t765))) else (pomadelaw07_PlaitJones.j1 k bt756.1 true)) else (pomadelaw07_PlaitJones.j1 k bt756.1 true)) else (pomadelaw07_PlaitJones.j1 k bt756.1 true))))
def pomadelaw07_PlaitJones.j1 : Nat → List Int → Bool → Option (Bool)
 | 0, _, _ => none
 | k + 1, x4, x52 => if x52 = true then (some false) else (pomadelaw07_PlaitJones.l0 k x4 0)
def pomadelaw07_PlaitJones.l0 : Nat → List Int → Int → Option (Bool)
 | 0, _, _ => none
 | k + 1, x4, x9 => if x9 < (x4.length : Int) then (pomadelaw07_PlaitJones.l1 k x4 x9 false false (wrap64 (x9 + 1))) else ((pomadelaw07_alive.f).bind fun t766 => (some t766))
def pomadelaw07_PlaitJones.l1 : Nat → List Int → Int → Bool → Bool → Int → Option (Bool)
 | 0, _, _, _, _, _ => none
 | k + 1, x4, x9, x10, x11, x12 => if x12 < (x4.length : Int) then (if 0 ≤ x12 then (if 0 ≤ x9 then (if x9 < (x4.length : Int) then (if (rd x4 x12) = (rd x4 x9) then (if x10 = true then (if x11 = true then (pomadelaw07_PlaitJones.l0 k x4 (wrap64 (x9 + 1))) else (some false)) else (some false)) else (if x10 = true then (if x11 = true then (pomadelaw07_PlaitJones.l1 k x4 x9 true true (wrap64 (x12 + 1))) else (pomadelaw07_PlaitJones.l1 k x4 x9 true ((rd x4 x12) == (wrap64 ((rd x4 x9) + 1))) (wrap64 (x12 + 1)))) else (if x11 = true then (pomadelaw07_PlaitJones.l1 k x4 x9 ((rd x4 x12) == (wrap64 ((rd x4 x9) - 1))) true (wrap64 (x12 + 1))) else (pomadelaw07_PlaitJones.l1 k x4 x9 ((rd x4 x12) == (wrap64 ((rd x4 x9) - 1))) ((rd x4 x12) == (wrap64 ((rd x4 x9) + 1))) (wrap64 (x12 + 1)))))) else (none)) else (none)) else (none)) else (pomadelaw07_PlaitJones.l0 k x4 (wrap64 (x9 + 1)))
end
def pomadelaw07_PlaitJones.f (k : Nat) (l0 : List Int) : Option (Bool) := if (l0.length : Int) > 16 then (pomadelaw07_PlaitJones.j0 k l0 true) else ((pomaderef07_Diagram.f k l0).bind fun t754 => (pomadelaw07_PlaitJones.j0 k l0 (t754 != 0)))
theorem pomadelaw07_PlaitJones.mono_l : ∀ k, (∀ y0 y1, LeO (pomadelaw07_PlaitJones.j0 k y0 y1) (pomadelaw07_PlaitJones.j0 (k + 1) y0 y1)) ∧ (∀ y0 y1, LeO (pomadelaw07_PlaitJones.j1 k y0 y1) (pomadelaw07_PlaitJones.j1 (k + 1) y0 y1)) ∧ (∀ y0 y1, LeO (pomadelaw07_PlaitJones.l0 k y0 y1) (pomadelaw07_PlaitJones.l0 (k + 1) y0 y1)) ∧ (∀ y0 y1 y2 y3 y4, LeO (pomadelaw07_PlaitJones.l1 k y0 y1 y2 y3 y4) (pomadelaw07_PlaitJones.l1 (k + 1) y0 y1 y2 y3 y4))
 | 0 => ⟨fun _ _ r h => by simp [pomadelaw07_PlaitJones.j0] at h, fun _ _ r h => by simp [pomadelaw07_PlaitJones.j1] at h, fun _ _ r h => by simp [pomadelaw07_PlaitJones.l0] at h, fun _ _ _ _ _ r h => by simp [pomadelaw07_PlaitJones.l1] at h⟩
 | k + 1 => by
  obtain ⟨ih0, ih1, ih2, ih3⟩ := pomadelaw07_PlaitJones.mono_l k
  refine ⟨?_, ?_, ?_, ?_⟩
  ·intro y0 y1
   unfold pomadelaw07_PlaitJones.j0
   repeat' first
   | (with_reducible exact ih0 _ _)
   | (with_reducible exact ih1 _ _)
   | (with_reducible exact ih2 _ _)
   | (with_reducible exact ih3 _ _ _ _ _)
   | (with_reducible exact plait_Hooks.mono _ _ _)
   | (with_reducible exact plait_Word.mono _ _)
   | (with_reducible exact pomadelaw07_same.mono _ _ _)
   | (with_reducible exact pomaderef07_Diagram.mono _ _)
   | (with_reducible exact LeO.refl _)
   | (with_reducible exact LeO.none _)
   | (with_reducible refine LeO.ite ?_ ?_)
   | (with_reducible refine LeO.bind ?_ (fun _ => ?_))
   | exact ih0 _ _
   | exact ih1 _ _
   | exact ih2 _ _
   | exact ih3 _ _ _ _ _
   | exact plait_Hooks.mono _ _ _
   | exact plait_Word.mono _ _
   | exact pomadelaw07_same.mono _ _ _
   | exact pomaderef07_Diagram.mono _ _
   | exact LeO.none _
   | refine LeO.ite ?_ ?_
   | refine LeO.bind ?_ (fun _ => ?_)
  ·intro y0 y1
   unfold pomadelaw07_PlaitJones.j1
   repeat' first
   | (with_reducible exact ih0 _ _)
   | (with_reducible exact ih1 _ _)
   | (with_reducible exact ih2 _ _)
   | (with_reducible exact ih3 _ _ _ _ _)
   | (with_reducible exact plait_Hooks.mono _ _ _)
   | (with_reducible exact plait_Word.mono _ _)
   | (with_reducible exact pomadelaw07_same.mono _ _ _)
   | (with_reducible exact pomaderef07_Diagram.mono _ _)
   | (with_reducible exact LeO.refl _)
   | (with_reducible exact LeO.none _)
   | (with_reducible refine LeO.ite ?_ ?_)
   | (with_reducible refine LeO.bind ?_ (fun _ => ?_))
   | exact ih0 _ _
   | exact ih1 _ _
   | exact ih2 _ _
   | exact ih3 _ _ _ _ _
   | exact plait_Hooks.mono _ _ _
   | exact plait_Word.mono _ _
   | exact pomadelaw07_same.mono _ _ _
   | exact pomaderef07_Diagram.mono _ _
   | exact LeO.none _
   | refine LeO.ite ?_ ?_
   | refine LeO.bind ?_ (fun _ => ?_)
  ·intro y0 y1
   unfold pomadelaw07_PlaitJones.l0
   repeat' first
   | (with_reducible exact ih0 _ _)
   | (with_reducible exact ih1 _ _)
   | (with_reducible exact ih2 _ _)
   | (with_reducible exact ih3 _ _ _ _ _)
   | (with_reducible exact plait_Hooks.mono _ _ _)
   | (with_reducible exact plait_Word.mono _ _)
   | (with_reducible exact pomadelaw07_same.mono _ _ _)
   | (with_reducible exact pomaderef07_Diagram.mono _ _)
   | (with_reducible exact LeO.refl _)
   | (with_reducible exact LeO.none _)
   | (with_reducible refine LeO.ite ?_ ?_)
   | (with_reducible refine LeO.bind ?_ (fun _ => ?_))
   | exact ih0 _ _
   | exact ih1 _ _
   | exact ih2 _ _
   | exact ih3 _ _ _ _ _
   | exact plait_Hooks.mono _ _ _
   | exact plait_Word.mono _ _
   | exact pomadelaw07_same.mono _ _ _
   | exact pomaderef07_Diagram.mono _ _
   | exact LeO.none _
   | refine LeO.ite ?_ ?_
   | refine LeO.bind ?_ (fun _ => ?_)
  ·intro y0 y1 y2 y3 y4
   unfold pomadelaw07_PlaitJones.l1
   repeat' first
   | (with_reducible exact ih0 _ _)
   | (with_reducible exact ih1 _ _)
   | (with_reducible exact ih2 _ _)
   | (with_reducible exact ih3 _ _ _ _ _)
   | (with_reducible exact plait_Hooks.mono _ _ _)
   | (with_reducible exact plait_Word.mono _ _)
   | (with_reducible exact pomadelaw07_same.mono _ _ _)
   | (with_reducible exact pomaderef07_Diagram.mono _ _)
   | (with_reducible exact LeO.refl _)
   | (with_reducible exact LeO.none _)
   | (with_reducible refine LeO.ite ?_ ?_)
   | (with_reducible refine LeO.bind ?_ (fun _ => ?_))
   | exact ih0 _ _
   | exact ih1 _ _
   | exact ih2 _ _
   | exact ih3 _ _ _ _ _
   | exact plait_Hooks.mono _ _ _
   | exact plait_Word.mono _ _
   | exact pomadelaw07_same.mono _ _ _
   | exact pomaderef07_Diagram.mono _ _
   | exact LeO.none _
   | refine LeO.ite ?_ ?_
   | refine LeO.bind ?_ (fun _ => ?_)
theorem pomadelaw07_PlaitJones.mono : ∀ a0 k, LeO (pomadelaw07_PlaitJones.f k a0) (pomadelaw07_PlaitJones.f (k + 1) a0) := by
 intro a0 k
 obtain ⟨ih0, ih1, ih2, ih3⟩ := pomadelaw07_PlaitJones.mono_l k
 unfold pomadelaw07_PlaitJones.f
 repeat' first
   | (with_reducible exact ih0 _ _)
   | (with_reducible exact ih1 _ _)
   | (with_reducible exact ih2 _ _)
   | (with_reducible exact ih3 _ _ _ _ _)
   | (with_reducible exact plait_Hooks.mono _ _ _)
   | (with_reducible exact plait_Word.mono _ _)
   | (with_reducible exact pomadelaw07_same.mono _ _ _)
   | (with_reducible exact pomaderef07_Diagram.mono _ _)
   | (with_reducible exact LeO.refl _)
   | (with_reducible exact LeO.none _)
   | (with_reducible refine LeO.ite ?_ ?_)
   | (with_reducible refine LeO.bind ?_ (fun _ => ?_))
   | exact ih0 _ _
   | exact ih1 _ _
   | exact ih2 _ _
   | exact ih3 _ _ _ _ _
   | exact plait_Hooks.mono _ _ _
   | exact plait_Word.mono _ _
   | exact pomadelaw07_same.mono _ _ _
   | exact pomaderef07_Diagram.mono _ _
   | exact LeO.none _
   | refine LeO.ite ?_ ?_
   | refine LeO.bind ?_ (fun _ => ?_)
set_option maxHeartbeats 8000000 in
set_option maxRecDepth 100000 in
theorem pomadelaw07_PlaitJones.calls (k : Nat) (A0 : Option Addr) (c0 : Nat) (l0 : List Int) (r : Bool) (w : World) (hr0 : Kd.C (Kd.int .i64) w A0 l0.length l0) (hc0 : l0.length ≤ c0) (h : pomadelaw07_PlaitJones.f k l0 = some r) :
  Calls Try.prog 16 #[.slice A0 l0.length c0] w fun e w' => e = .returned (.bool r) ∧ Below w.heap.size w w' := by
 have HR0 := Aside0.mk hr0
 have HC0 := Aside0.mk hc0
 clear hr0 hc0
 have HB := Aside0.mk (Below.refl w.heap.size w)
 have H : (if (l0.length : Int) > 16 then (pomadelaw07_PlaitJones.j0 k l0 true) else ((pomaderef07_Diagram.f k l0).bind fun t754 => (pomadelaw07_PlaitJones.j0 k l0 (t754 != 0)))) = some r := h
 clear h
 have HC2 := Aside0.mk H
 clear H
 go_enter Try.func16, Try.ntmps16
 go_upto_region 1 with (fail)
 repeat (go_quiet (fail); go_upto_region 1 with (fail))
 go_cut [20] (fun v20 wc => ∃ (kq : Nat) (x20_1 : Bool), v20 = .bool x20_1 ∧ Aside0 (pomadelaw07_PlaitJones.j0 kq l0 x20_1 = some r) ∧ Aside0 (kq ≤ k) ∧ Aside0 (Below w.heap.size w wc))
 case first =>
  have H := HC2.out
  clear HC2
  by_cases c3 : (l0.length : Int) > 16
  ·rw [if_pos c3] at H
   have c3b0 : decide (16 < (l0.length : Int)) = true := decide_eq_true c3
   have c3b1 : decide (16 < l0.length) = true := decide_eq_true (by omega)
   clear c3
   (first | rw [c3b0] | (simp only [i64_w, i32_w]; rw [c3b0]) | skip)
   have H' := Aside0.mk H
   clear H
   go_wp2
   repeat (go_quiet (fail); try go_wp2)
   go_meet
   case rel => exact ⟨_, (true), (by first | rfl | (simp; done) | (simp [*]; done)), H', ⟨by first | omega | exact Nat.le_refl _⟩, ⟨by repeat (first | (with_reducible first | exact HB.out | apply below_alloc | apply pw_below_drewN | apply below_drew1) | exact HB.out)⟩⟩
  ·rw [if_neg c3] at H
   have c3b0 : decide (16 < (l0.length : Int)) = false := decide_eq_false c3
   have c3b1 : decide (16 < l0.length) = false := decide_eq_false (by omega)
   clear c3
   (first | rw [c3b0] | (simp only [i64_w, i32_w]; rw [c3b0]) | skip)
   replace H := Option.bind_eq_some_iff.mp H
   obtain ⟨t754, A40, H⟩ := H
   replace H : (pomadelaw07_PlaitJones.j0 k l0 (t754 != 0)) = some r := H
   have A4 := Aside0.mk A40
   clear A40
   have H' := Aside0.mk H
   clear H
   go_wp2_with (first | (go_at_call 19; (with_reducible refine (pomaderef07_Diagram.calls k _ _ l0 t754 _ ?side1 ?side2 A4.out).mono ?_); (case side1 => repeat (first | exact (Kd.C_below HR0.out HB.out) | (with_reducible refine Kd.C_alloc ?_ _) | (with_reducible refine Kd.C_drewN ?_ _) | (with_reducible refine Kd.C_drew ?_))); (case side2 => exact HC0.out); rintro e w' ⟨rfl, ⟨nd, rfl⟩⟩; (try first | exact ⟨rfl, _, World.drewN_drewN _ _ _⟩ | exact ⟨rfl, _, Eq.trans (World.drewN_drewN _ _ _) (congrArg (World.drewN _) (Nat.add_assoc _ _ _))⟩)))
   repeat (go_quiet (first | (go_at_call 19; (with_reducible refine (pomaderef07_Diagram.calls k _ _ l0 t754 _ ?side1 ?side2 A4.out).mono ?_); (case side1 => repeat (first | exact (Kd.C_below HR0.out HB.out) | (with_reducible refine Kd.C_alloc ?_ _) | (with_reducible refine Kd.C_drewN ?_ _) | (with_reducible refine Kd.C_drew ?_))); (case side2 => exact HC0.out); rintro e w' ⟨rfl, ⟨nd, rfl⟩⟩; (try first | exact ⟨rfl, _, World.drewN_drewN _ _ _⟩ | exact ⟨rfl, _, Eq.trans (World.drewN_drewN _ _ _) (congrArg (World.drewN _) (Nat.add_assoc _ _ _))⟩))); try go_wp2_with (first | (go_at_call 19; (with_reducible refine (pomaderef07_Diagram.calls k _ _ l0 t754 _ ?side1 ?side2 A4.out).mono ?_); (case side1 => repeat (first | exact (Kd.C_below HR0.out HB.out) | (with_reducible refine Kd.C_alloc ?_ _) | (with_reducible refine Kd.C_drewN ?_ _) | (with_reducible refine Kd.C_drew ?_))); (case side2 => exact HC0.out); rintro e w' ⟨rfl, ⟨nd, rfl⟩⟩; (try first | exact ⟨rfl, _, World.drewN_drewN _ _ _⟩ | exact ⟨rfl, _, Eq.trans (World.drewN_drewN _ _ _) (congrArg (World.drewN _) (Nat.add_assoc _ _ _))⟩))))
   go_meet
   case rel => exact ⟨_, ((t754 != 0)), (by first | rfl | (simp; done) | (simp [*]; done)), H', ⟨by first | omega | exact Nat.le_refl _⟩, ⟨by repeat (first | (with_reducible first | exact HB.out | apply below_alloc | apply pw_below_drewN | apply below_drew1) | exact HB.out)⟩⟩
 case rest =>
  clear HC2
  try clear c1
  try clear p2
  try clear c3
  try clear c3b0
  try clear c3b1
  obtain ⟨kq, x20_1, rfl, HA, HJ1, HB⟩ := hcut
  cases kq with
  | zero => exact absurd HA.out (by simp [pomadelaw07_PlaitJones.j0])
  | succ kj1 =>
   have H := HA.out
   clear HA
   simp only [pomadelaw07_PlaitJones.j0] at H
   by_cases c5 : x20_1 = true
   ·subst c5
    have H1 : ((pomadelaw07_alive.f).bind fun t755 => (some t755)) = some r := by rw [if_pos rfl] at H; exact H
    clear H
    have H := H1
    clear H1
    replace H := Option.bind_eq_some_iff.mp H
    obtain ⟨t755, A60, H⟩ := H
    replace H : (some t755) = some r := H
    have A6 := Aside0.mk A60
    clear A60
    obtain rfl := Option.some.inj H
    go_wp2_with (first | (go_at_call 20; (with_reducible refine (pomadelaw07_alive.calls  t755 _ A6.out).mono ?_); rintro e w7 ⟨rfl, hb⟩; have n0_ := Aside0.mk (below_step (by repeat (first | (with_reducible first | exact HB.out | apply below_alloc | apply pw_below_drewN | apply below_drew1) | exact HB.out)) hb); clear HB; have HB := n0_; clear n0_; (try clear hb); (try clear hb2); (try clear hk); (try clear hi)))
    repeat (go_quiet (first | (go_at_call 20; (with_reducible refine (pomadelaw07_alive.calls  t755 _ A6.out).mono ?_); rintro e w7 ⟨rfl, hb⟩; have n0_ := Aside0.mk (below_step (by repeat (first | (with_reducible first | exact HB.out | apply below_alloc | apply pw_below_drewN | apply below_drew1) | exact HB.out)) hb); clear HB; have HB := n0_; clear n0_; (try clear hb); (try clear hb2); (try clear hk); (try clear hi))); try go_wp2_with (first | (go_at_call 20; (with_reducible refine (pomadelaw07_alive.calls  t755 _ A6.out).mono ?_); rintro e w7 ⟨rfl, hb⟩; have n0_ := Aside0.mk (below_step (by repeat (first | (with_reducible first | exact HB.out | apply below_alloc | apply pw_below_drewN | apply below_drew1) | exact HB.out)) hb); clear HB; have HB := n0_; clear n0_; (try clear hb); (try clear hb2); (try clear hk); (try clear hi))))
    go_ret
    exact ⟨by first | rfl | (simp [errW_none, errW_some] <;> rfl) | (simp [*, errW_none, errW_some] <;> rfl), by repeat (first | (with_reducible first | exact HB.out | apply below_alloc | apply pw_below_drewN | apply below_drew1) | exact HB.out)⟩
   ·replace c5 := Bool.eq_false_iff.mpr c5
    subst c5
    have H1 : ((plait_Word.f kj1 l0).bind fun bt756 => ((plait_Hooks.f kj1 (wrap64 ((l0.length : Int) / 2)) bt756.1).bind fun bt760 => (if bt756.2 = 0 then (if bt760.2.2 = 0 then (if bt760.2.1 = 0 then ((pomadelaw07_same.f kj1 bt760.1 l0).bind fun t765 => (pomadelaw07_PlaitJones.j1 kj1 bt756.1 (!t765))) else (pomadelaw07_PlaitJones.j1 kj1 bt756.1 true)) else (pomadelaw07_PlaitJones.j1 kj1 bt756.1 true)) else (pomadelaw07_PlaitJones.j1 kj1 bt756.1 true)))) = some r := by rw [if_neg (show ¬ (false = true) by decide)] at H; exact H
    clear H
    have H := H1
    clear H1
    replace H := Option.bind_eq_some_iff.mp H
    obtain ⟨⟨t756, t757⟩, A80, H⟩ := H
    replace H : ((plait_Hooks.f kj1 (wrap64 ((l0.length : Int) / 2)) t756).bind fun bt760 => (if t757 = 0 then (if bt760.2.2 = 0 then (if bt760.2.1 = 0 then ((pomadelaw07_same.f kj1 bt760.1 l0).bind fun t765 => (pomadelaw07_PlaitJones.j1 kj1 t756 (!t765))) else (pomadelaw07_PlaitJones.j1 kj1 t756 true)) else (pomadelaw07_PlaitJones.j1 kj1 t756 true)) else (pomadelaw07_PlaitJones.j1 kj1 t756 true))) = some r := H
    have A8 := Aside0.mk A80
    clear A80
    replace H := Option.bind_eq_some_iff.mp H
    obtain ⟨⟨t760, t761, t762⟩, A90, H⟩ := H
    replace H : (if t757 = 0 then (if t762 = 0 then (if t761 = 0 then ((pomadelaw07_same.f kj1 t760 l0).bind fun t765 => (pomadelaw07_PlaitJones.j1 kj1 t756 (!t765))) else (pomadelaw07_PlaitJones.j1 kj1 t756 true)) else (pomadelaw07_PlaitJones.j1 kj1 t756 true)) else (pomadelaw07_PlaitJones.j1 kj1 t756 true)) = some r := H
    have A9 := Aside0.mk A90
    clear A90
    have HC10 := Aside0.mk H
    clear H
    go_upto_region 6 with (first | (go_at_call 21; (with_reducible refine (plait_Word.calls kj1 _ _ l0 t756 t757 _ ?side1 ?side2 A8.out).mono ?_); (case side1 => repeat (first | exact (Kd.C_below HR0.out HB.out) | (with_reducible refine Kd.C_alloc ?_ _) | (with_reducible refine Kd.C_drewN ?_ _) | (with_reducible refine Kd.C_drew ?_))); (case side2 => exact HC0.out); rintro e w11 ⟨v758, rfl, ho0, hb⟩; have n0_ := Aside0.mk (Kd.R_lower ho0 (below_size (by repeat (first | (with_reducible first | exact HB.out | apply below_alloc | apply pw_below_drewN | apply below_drew1) | exact HB.out)))); have n1_ := Aside0.mk (below_step (by repeat (first | (with_reducible first | exact HB.out | apply below_alloc | apply pw_below_drewN | apply below_drew1) | exact HB.out)) hb); clear HB; have HO759 := n0_; have HB := n1_; clear n0_ n1_; (try clear hb); (try clear hb2); (try clear hk); (try clear hi); (try clear ho0); obtain ⟨Ao12, co12, eo12⟩ := Kd.R_slice HO759.out; subst eo12) | (go_at_call 49; (with_reducible refine (plait_Hooks.calls kj1 (wrap64 ((l0.length : Int) / 2)) _ _ t756 t760 t761 t762 _ ?side1 ?side2 A9.out).mono ?_); (case side1 => repeat (first | exact (Kd.R_reads' HO759.out).2.2 | (with_reducible refine Kd.C_alloc ?_ _) | (with_reducible refine Kd.C_drewN ?_ _) | (with_reducible refine Kd.C_drew ?_))); (case side2 => exact (Kd.R_reads' HO759.out).2.1); rintro e w13 ⟨v763, rfl, ho0, hb⟩; have n0_ := Aside0.mk (Kd.R_elder' (by (with_reducible repeat (first | apply Kd.R_alloc | apply Kd.R_drewN | apply Kd.R_drew)); exact HO759.out) (Kd.R_base ho0) hb); have n1_ := Aside0.mk (Kd.R_lower (Kd.R_new' ho0 (Kd.R_lt (by (with_reducible repeat (first | apply Kd.R_alloc | apply Kd.R_drewN | apply Kd.R_drew)); exact HO759.out))) (below_size (by repeat (first | (with_reducible first | exact HB.out | apply below_alloc | apply pw_below_drewN | apply below_drew1) | exact HB.out)))); have n2_ := Aside0.mk (below_step (by repeat (first | (with_reducible first | exact HB.out | apply below_alloc | apply pw_below_drewN | apply below_drew1) | exact HB.out)) hb); clear HO759; clear HB; have HO759 := n0_; have HO764 := n1_; have HB := n2_; clear n0_ n1_ n2_; (try clear hb); (try clear hb2); (try clear hk); (try clear hi); (try clear ho0)))
    repeat (go_quiet (first | (go_at_call 21; (with_reducible refine (plait_Word.calls kj1 _ _ l0 t756 t757 _ ?side1 ?side2 A8.out).mono ?_); (case side1 => repeat (first | exact (Kd.C_below HR0.out HB.out) | (with_reducible refine Kd.C_alloc ?_ _) | (with_reducible refine Kd.C_drewN ?_ _) | (with_reducible refine Kd.C_drew ?_))); (case side2 => exact HC0.out); rintro e w11 ⟨v758, rfl, ho0, hb⟩; have n0_ := Aside0.mk (Kd.R_lower ho0 (below_size (by repeat (first | (with_reducible first | exact HB.out | apply below_alloc | apply pw_below_drewN | apply below_drew1) | exact HB.out)))); have n1_ := Aside0.mk (below_step (by repeat (first | (with_reducible first | exact HB.out | apply below_alloc | apply pw_below_drewN | apply below_drew1) | exact HB.out)) hb); clear HB; have HO759 := n0_; have HB := n1_; clear n0_ n1_; (try clear hb); (try clear hb2); (try clear hk); (try clear hi); (try clear ho0); obtain ⟨Ao12, co12, eo12⟩ := Kd.R_slice HO759.out; subst eo12) | (go_at_call 49; (with_reducible refine (plait_Hooks.calls kj1 (wrap64 ((l0.length : Int) / 2)) _ _ t756 t760 t761 t762 _ ?side1 ?side2 A9.out).mono ?_); (case side1 => repeat (first | exact (Kd.R_reads' HO759.out).2.2 | (with_reducible refine Kd.C_alloc ?_ _) | (with_reducible refine Kd.C_drewN ?_ _) | (with_reducible refine Kd.C_drew ?_))); (case side2 => exact (Kd.R_reads' HO759.out).2.1); rintro e w13 ⟨v763, rfl, ho0, hb⟩; have n0_ := Aside0.mk (Kd.R_elder' (by (with_reducible repeat (first | apply Kd.R_alloc | apply Kd.R_drewN | apply Kd.R_drew)); exact HO759.out) (Kd.R_base ho0) hb); have n1_ := Aside0.mk (Kd.R_lower (Kd.R_new' ho0 (Kd.R_lt (by (with_reducible repeat (first | apply Kd.R_alloc | apply Kd.R_drewN | apply Kd.R_drew)); exact HO759.out))) (below_size (by repeat (first | (with_reducible first | exact HB.out | apply below_alloc | apply pw_below_drewN | apply below_drew1) | exact HB.out)))); have n2_ := Aside0.mk (below_step (by repeat (first | (with_reducible first | exact HB.out | apply below_alloc | apply pw_below_drewN | apply below_drew1) | exact HB.out)) hb); clear HO759; clear HB; have HO759 := n0_; have HO764 := n1_; have HB := n2_; clear n0_ n1_ n2_; (try clear hb); (try clear hb2); (try clear hk); (try clear hi); (try clear ho0))); go_upto_region 6 with (first | (go_at_call 21; (with_reducible refine (plait_Word.calls kj1 _ _ l0 t756 t757 _ ?side1 ?side2 A8.out).mono ?_); (case side1 => repeat (first | exact (Kd.C_below HR0.out HB.out) | (with_reducible refine Kd.C_alloc ?_ _) | (with_reducible refine Kd.C_drewN ?_ _) | (with_reducible refine Kd.C_drew ?_))); (case side2 => exact HC0.out); rintro e w11 ⟨v758, rfl, ho0, hb⟩; have n0_ := Aside0.mk (Kd.R_lower ho0 (below_size (by repeat (first | (with_reducible first | exact HB.out | apply below_alloc | apply pw_below_drewN | apply below_drew1) | exact HB.out)))); have n1_ := Aside0.mk (below_step (by repeat (first | (with_reducible first | exact HB.out | apply below_alloc | apply pw_below_drewN | apply below_drew1) | exact HB.out)) hb); clear HB; have HO759 := n0_; have HB := n1_; clear n0_ n1_; (try clear hb); (try clear hb2); (try clear hk); (try clear hi); (try clear ho0); obtain ⟨Ao12, co12, eo12⟩ := Kd.R_slice HO759.out; subst eo12) | (go_at_call 49; (with_reducible refine (plait_Hooks.calls kj1 (wrap64 ((l0.length : Int) / 2)) _ _ t756 t760 t761 t762 _ ?side1 ?side2 A9.out).mono ?_); (case side1 => repeat (first | exact (Kd.R_reads' HO759.out).2.2 | (with_reducible refine Kd.C_alloc ?_ _) | (with_reducible refine Kd.C_drewN ?_ _) | (with_reducible refine Kd.C_drew ?_))); (case side2 => exact (Kd.R_reads' HO759.out).2.1); rintro e w13 ⟨v763, rfl, ho0, hb⟩; have n0_ := Aside0.mk (Kd.R_elder' (by (with_reducible repeat (first | apply Kd.R_alloc | apply Kd.R_drewN | apply Kd.R_drew)); exact HO759.out) (Kd.R_base ho0) hb); have n1_ := Aside0.mk (Kd.R_lower (Kd.R_new' ho0 (Kd.R_lt (by (with_reducible repeat (first | apply Kd.R_alloc | apply Kd.R_drewN | apply Kd.R_drew)); exact HO759.out))) (below_size (by repeat (first | (with_reducible first | exact HB.out | apply below_alloc | apply pw_below_drewN | apply below_drew1) | exact HB.out)))); have n2_ := Aside0.mk (below_step (by repeat (first | (with_reducible first | exact HB.out | apply below_alloc | apply pw_below_drewN | apply below_drew1) | exact HB.out)) hb); clear HO759; clear HB; have HO759 := n0_; have HO764 := n1_; have HB := n2_; clear n0_ n1_ n2_; (try clear hb); (try clear hb2); (try clear hk); (try clear hi); (try clear ho0))))
    (try simp only [Act.put, List.setIfInBounds_toArray, List.set_cons_zero, List.set_cons_succ])
    go_cut [52] (fun v52 wc => ∃ (kq : Nat) (x52_9 : Bool), v52 = .bool x52_9 ∧ Aside0 (pomadelaw07_PlaitJones.j1 kq t756 x52_9 = some r) ∧ Aside0 (kq ≤ kj1) ∧ Aside0 (Kd.R (Kd.int .i64) 3 wc w.heap.size (fun _ => True) (.slice Ao12 t756.length co12) t756) ∧ Aside0 (Below w.heap.size w wc))
    case first =>
     have H := HC10.out
     clear HC10
     by_cases c14 : t757 = 0
     ·rw [if_pos c14] at H
      have c14b0 : (t757 == 0) = true := beq_iff_eq.mpr c14
      have c14b1 : (t757 != 0) = false := bne_eq_false_iff_eq.mpr c14
      clear c14
      (first | rw [c14b0] | (simp only [i64_w, i32_w]; rw [c14b0]) | skip)
      by_cases c15 : t762 = 0
      ·rw [if_pos c15] at H
       have c15b0 : (t762 == 0) = true := beq_iff_eq.mpr c15
       have c15b1 : (t762 != 0) = false := bne_eq_false_iff_eq.mpr c15
       clear c15
       by_cases c16 : t761 = 0
       ·rw [if_pos c16] at H
        have c16b0 : (t761 == 0) = true := beq_iff_eq.mpr c16
        have c16b1 : (t761 != 0) = false := bne_eq_false_iff_eq.mpr c16
        clear c16
        replace H := Option.bind_eq_some_iff.mp H
        obtain ⟨t765, A170, H⟩ := H
        replace H : (pomadelaw07_PlaitJones.j1 kj1 t756 (!t765)) = some r := H
        have A17 := Aside0.mk A170
        clear A170
        have H' := Aside0.mk H
        clear H
        obtain ⟨Ao18, co18, eo18⟩ := Kd.R_slice HO764.out
        subst eo18
        go_wp2_with (first | (go_at_call 23; (with_reducible refine (pomadelaw07_same.calls kj1 _ _ t760 _ _ l0 t765 _ ?side1 ?side2 ?side3 ?side4 A17.out).mono ?_); (case side1 => repeat (first | exact (Kd.R_reads' HO764.out).2.2 | (with_reducible refine Kd.C_alloc ?_ _) | (with_reducible refine Kd.C_drewN ?_ _) | (with_reducible refine Kd.C_drew ?_))); (case side2 => exact (Kd.R_reads' HO764.out).2.1); (case side3 => repeat (first | exact (Kd.C_below HR0.out HB.out) | (with_reducible refine Kd.C_alloc ?_ _) | (with_reducible refine Kd.C_drewN ?_ _) | (with_reducible refine Kd.C_drew ?_))); (case side4 => exact HC0.out); rintro e w' ⟨rfl, ⟨nd, rfl⟩⟩; (try first | exact ⟨rfl, _, World.drewN_drewN _ _ _⟩ | exact ⟨rfl, _, Eq.trans (World.drewN_drewN _ _ _) (congrArg (World.drewN _) (Nat.add_assoc _ _ _))⟩)))
        repeat (go_quiet (first | (go_at_call 23; (with_reducible refine (pomadelaw07_same.calls kj1 _ _ t760 _ _ l0 t765 _ ?side1 ?side2 ?side3 ?side4 A17.out).mono ?_); (case side1 => repeat (first | exact (Kd.R_reads' HO764.out).2.2 | (with_reducible refine Kd.C_alloc ?_ _) | (with_reducible refine Kd.C_drewN ?_ _) | (with_reducible refine Kd.C_drew ?_))); (case side2 => exact (Kd.R_reads' HO764.out).2.1); (case side3 => repeat (first | exact (Kd.C_below HR0.out HB.out) | (with_reducible refine Kd.C_alloc ?_ _) | (with_reducible refine Kd.C_drewN ?_ _) | (with_reducible refine Kd.C_drew ?_))); (case side4 => exact HC0.out); rintro e w' ⟨rfl, ⟨nd, rfl⟩⟩; (try first | exact ⟨rfl, _, World.drewN_drewN _ _ _⟩ | exact ⟨rfl, _, Eq.trans (World.drewN_drewN _ _ _) (congrArg (World.drewN _) (Nat.add_assoc _ _ _))⟩))); try go_wp2_with (first | (go_at_call 23; (with_reducible refine (pomadelaw07_same.calls kj1 _ _ t760 _ _ l0 t765 _ ?side1 ?side2 ?side3 ?side4 A17.out).mono ?_); (case side1 => repeat (first | exact (Kd.R_reads' HO764.out).2.2 | (with_reducible refine Kd.C_alloc ?_ _) | (with_reducible refine Kd.C_drewN ?_ _) | (with_reducible refine Kd.C_drew ?_))); (case side2 => exact (Kd.R_reads' HO764.out).2.1); (case side3 => repeat (first | exact (Kd.C_below HR0.out HB.out) | (with_reducible refine Kd.C_alloc ?_ _) | (with_reducible refine Kd.C_drewN ?_ _) | (with_reducible refine Kd.C_drew ?_))); (case side4 => exact HC0.out); rintro e w' ⟨rfl, ⟨nd, rfl⟩⟩; (try first | exact ⟨rfl, _, World.drewN_drewN _ _ _⟩ | exact ⟨rfl, _, Eq.trans (World.drewN_drewN _ _ _) (congrArg (World.drewN _) (Nat.add_assoc _ _ _))⟩))))
        go_meet
        case rel => exact ⟨_, (!t765), (by first | rfl | (simp; done) | (simp [*]; done)), H', ⟨by have := HJ1.out; first | omega | exact Nat.le_refl _⟩, ⟨by (with_reducible repeat (first | apply Kd.R_alloc | apply Kd.R_drewN | apply Kd.R_drew)); exact Kd.R_mono HO759.out (fun _ hk => trivial)⟩, ⟨by repeat (first | (with_reducible first | exact HB.out | apply below_alloc | apply pw_below_drewN | apply below_drew1) | exact HB.out)⟩⟩
       ·rw [if_neg c16] at H
        have c16b0 : (t761 == 0) = false := beq_eq_false_iff_ne.mpr c16
        have c16b1 : (t761 != 0) = true := bne_iff_ne.mpr c16
        have H' := Aside0.mk H
        clear H
        go_wp2
        repeat (go_quiet (fail); try go_wp2)
        go_meet
        case rel => exact ⟨_, (true), (by first | rfl | (simp; done) | (simp [*]; done)), H', ⟨by have := HJ1.out; first | omega | exact Nat.le_refl _⟩, ⟨by (with_reducible repeat (first | apply Kd.R_alloc | apply Kd.R_drewN | apply Kd.R_drew)); exact Kd.R_mono HO759.out (fun _ hk => trivial)⟩, ⟨by repeat (first | (with_reducible first | exact HB.out | apply below_alloc | apply pw_below_drewN | apply below_drew1) | exact HB.out)⟩⟩
      ·rw [if_neg c15] at H
       have c15b0 : (t762 == 0) = false := beq_eq_false_iff_ne.mpr c15
       have c15b1 : (t762 != 0) = true := bne_iff_ne.mpr c15
       have H' := Aside0.mk H
       clear H
       go_wp2
       repeat (go_quiet (fail); try go_wp2)
       go_meet
       case rel => exact ⟨_, (true), (by first | rfl | (simp; done) | (simp [*]; done)), H', ⟨by have := HJ1.out; first | omega | exact Nat.le_refl _⟩, ⟨by (with_reducible repeat (first | apply Kd.R_alloc | apply Kd.R_drewN | apply Kd.R_drew)); exact Kd.R_mono HO759.out (fun _ hk => trivial)⟩, ⟨by repeat (first | (with_reducible first | exact HB.out | apply below_alloc | apply pw_below_drewN | apply below_drew1) | exact HB.out)⟩⟩
     ·rw [if_neg c14] at H
      have c14b0 : (t757 == 0) = false := beq_eq_false_iff_ne.mpr c14
      have c14b1 : (t757 != 0) = true := bne_iff_ne.mpr c14
      (first | rw [c14b0] | (simp only [i64_w, i32_w]; rw [c14b0]) | skip)
      have H' := Aside0.mk H
      clear H
      go_wp2
      repeat (go_quiet (fail); try go_wp2)
      go_meet
      case rel => exact ⟨_, (true), (by first | rfl | (simp; done) | (simp [*]; done)), H', ⟨by have := HJ1.out; first | omega | exact Nat.le_refl _⟩, ⟨by (with_reducible repeat (first | apply Kd.R_alloc | apply Kd.R_drewN | apply Kd.R_drew)); exact Kd.R_mono HO759.out (fun _ hk => trivial)⟩, ⟨by repeat (first | (with_reducible first | exact HB.out | apply below_alloc | apply pw_below_drewN | apply below_drew1) | exact HB.out)⟩⟩
    case rest =>
     clear HC10
     try clear c1
     try clear p2
     try clear c3
     try clear c3b0
     try clear c3b1
     try clear c5
     try clear p6
     try clear c14
     try clear c14b0
     try clear c14b1
     try clear c15
     try clear c15b0
     try clear c15b1
     try clear c16
     try clear c16b0
     try clear c16b1
     try clear p2
     obtain ⟨kq, x52_9, rfl, HA, HJ9, HO_4, HB⟩ := hcut
     cases kq with
     | zero => exact absurd HA.out (by simp [pomadelaw07_PlaitJones.j1])
     | succ kj9 =>
      have H := HA.out
      clear HA
      simp only [pomadelaw07_PlaitJones.j1] at H
      by_cases c19 : x52_9 = true
      ·subst c19
       have H1 : (some false) = some r := by rw [if_pos rfl] at H; exact H
       clear H
       have H := H1
       clear H1
       obtain rfl := Option.some.inj H
       go_wp2
       repeat (go_quiet (fail); try go_wp2)
       go_ret
       exact ⟨by first | rfl | (simp [errW_none, errW_some] <;> rfl) | (simp [*, errW_none, errW_some] <;> rfl), by repeat (first | (with_reducible first | exact HB.out | apply below_alloc | apply pw_below_drewN | apply below_drew1) | exact HB.out)⟩
      ·replace c19 := Bool.eq_false_iff.mpr c19
       subst c19
       have H1 : (pomadelaw07_PlaitJones.l0 kj9 t756 0) = some r := by rw [if_neg (show ¬ (false = true) by decide)] at H; exact H
       clear H
       have H := H1
       clear H1
       have H' := Aside0.mk H
       clear H
       go_wp2
       repeat (go_quiet (fail); try go_wp2)
       go_loopg [9] kj9 (fun kq v9 w' => ∃ (x9_3 : Int), v9 = .int .i64 x9_3 ∧ Aside0 (pomadelaw07_PlaitJones.l0 kq t756 x9_3 = some r) ∧ Aside0 (kq ≤ kj9) ∧ Aside0 (Kd.R (Kd.int .i64) 3 w' w.heap.size (fun _ => True) (.slice Ao12 t756.length co12) t756) ∧ Aside0 (Below w.heap.size w w'))
       case atStart => exact ⟨(0), (by first | rfl | (simp; done) | (simp [*]; done)), H', ⟨Nat.le_refl _⟩, ⟨by (with_reducible repeat (first | apply Kd.R_alloc | apply Kd.R_drewN | apply Kd.R_drew)); exact HO_4.out⟩, ⟨by repeat (first | (with_reducible first | exact HB.out | apply below_alloc | apply pw_below_drewN | apply below_drew1) | exact HB.out)⟩⟩
       case round =>
        clear H'
        try clear c1
        try clear p2
        try clear c3
        try clear c3b0
        try clear c3b1
        try clear c5
        try clear p6
        try clear c14
        try clear c14b0
        try clear c14b1
        try clear c15
        try clear c15b0
        try clear c15b1
        try clear c16
        try clear c16b0
        try clear c16b1
        try clear c19
        try clear p2
        try clear p6
        obtain ⟨x9_3, rfl, HA, HK3, HO_4, HB⟩ := hrel
        cases gk with
        | zero => exact absurd HA.out (by simp [pomadelaw07_PlaitJones.l0])
        | succ k3 =>
         have H := HA.out
         clear HA
         simp only [pomadelaw07_PlaitJones.l0] at H
         by_cases c20 : x9_3 < (t756.length : Int)
         ·rw [if_pos c20] at H
          have c20b0 : decide (x9_3 < (t756.length : Int)) = true := decide_eq_true c20
          clear c20
          have H' := Aside0.mk H
          clear H
          go_wp2
          repeat (go_quiet (fail); try go_wp2)
          go_loopg [10, 11, 12] k3 (fun kq v10 v11 v12 w' => ∃ (x10_4 : Bool) (x11_4 : Bool) (x12_4 : Int), v10 = .bool x10_4 ∧ v11 = .bool x11_4 ∧ v12 = .int .i64 x12_4 ∧ Aside0 (pomadelaw07_PlaitJones.l1 kq t756 x9_3 x10_4 x11_4 x12_4 = some r) ∧ Aside0 (kq ≤ k3) ∧ Aside0 (Kd.R (Kd.int .i64) 3 w' w.heap.size (fun _ => True) (.slice Ao12 t756.length co12) t756) ∧ Aside0 (Below w.heap.size w w'))
          case atStart => exact ⟨(false), (false), (wrap64 (x9_3 + 1)), (by first | rfl | (simp; done) | (simp [*]; done)), (by first | rfl | (simp; done) | (simp [*]; done)), (by first | rfl | (simp; done) | (simp [*]; done)), H', ⟨Nat.le_refl _⟩, ⟨by (with_reducible repeat (first | apply Kd.R_alloc | apply Kd.R_drewN | apply Kd.R_drew)); exact HO_4.out⟩, ⟨by repeat (first | (with_reducible first | exact HB.out | apply below_alloc | apply pw_below_drewN | apply below_drew1) | exact HB.out)⟩⟩
          case round =>
           clear H'
           try clear c1
           try clear c2
           try clear p2
           try clear c3
           try clear c3b0
           try clear c3b1
           try clear c5
           try clear p6
           try clear c14
           try clear c14b0
           try clear c14b1
           try clear c15
           try clear c15b0
           try clear c15b1
           try clear c16
           try clear c16b0
           try clear c16b1
           try clear c19
           try clear c20
           try clear c20b0
           try clear p2
           try clear p6
           obtain ⟨x10_4, x11_4, x12_4, rfl, rfl, rfl, HA, HK4, HO_4, HB⟩ := hrel
           cases gk with
           | zero => exact absurd HA.out (by simp [pomadelaw07_PlaitJones.l1])
           | succ k4 =>
            have H := HA.out
            clear HA
            simp only [pomadelaw07_PlaitJones.l1] at H
            by_cases c21 : x12_4 < (t756.length : Int)
            ·rw [if_pos c21] at H
             have c21b0 : decide (x12_4 < (t756.length : Int)) = true := decide_eq_true c21
             clear c21
             by_cases c22 : 0 ≤ x12_4
             ·rw [if_pos c22] at H
              have c22b0 : decide (0 ≤ x12_4) = true := decide_eq_true c22
              clear c22
              by_cases c23 : 0 ≤ x9_3
              ·rw [if_pos c23] at H
               have c23b0 : decide (0 ≤ x9_3) = true := decide_eq_true c23
               clear c23
               by_cases c24 : x9_3 < (t756.length : Int)
               ·rw [if_pos c24] at H
                have c24b0 : decide (x9_3 < (t756.length : Int)) = true := decide_eq_true c24
                clear c24
                by_cases c25 : (rd t756 x12_4) = (rd t756 x9_3)
                ·rw [if_pos c25] at H
                 have c25b0 : ((rd t756 x12_4) == (rd t756 x9_3)) = true := beq_iff_eq.mpr c25
                 have c25b1 : ((rd t756 x12_4) != (rd t756 x9_3)) = false := bne_eq_false_iff_eq.mpr c25
                 clear c25
                 by_cases c26 : x10_4 = true
                 ·subst c26
                  have H1 : (if x11_4 = true then (pomadelaw07_PlaitJones.l0 k4 t756 (wrap64 (x9_3 + 1))) else (some false)) = some r := by rw [if_pos rfl] at H; exact H
                  clear H
                  have H := H1
                  clear H1
                  by_cases c27 : x11_4 = true
                  ·subst c27
                   have H1 : (pomadelaw07_PlaitJones.l0 k4 t756 (wrap64 (x9_3 + 1))) = some r := by rw [if_pos rfl] at H; exact H
                   clear H
                   have H := H1
                   clear H1
                   have H' := Aside0.mk H
                   clear H
                   have p767 : 0 ≤ (x12_4 : Int) := of_decide_eq_true (by first | (with_reducible assumption) | assumption)
                   have q767 : x12_4 < (t756.length : Int) := of_decide_eq_true (by first | (with_reducible assumption) | assumption)
                   obtain ⟨ad767, e767, hx767_0⟩ := Kd.at_int (Kd.R_reads' HO_4.out).2.2 x12_4 p767 q767
                   cases e767
                   replace p767 := eq_true p767
                   replace q767 := eq_true q767
                   have p768 : 0 ≤ (x9_3 : Int) := of_decide_eq_true (by first | (with_reducible assumption) | assumption)
                   have q768 : x9_3 < (t756.length : Int) := of_decide_eq_true (by first | (with_reducible assumption) | assumption)
                   obtain ⟨ad768, e768, hx768_0⟩ := Kd.at_int (Kd.R_reads' HO_4.out).2.2 x9_3 p768 q768
                   obtain rfl : ad767 = ad768 := (by injection e768)
                   replace p768 := eq_true p768
                   replace q768 := eq_true q768
                   go_wp2
                   repeat (go_quiet (fail); try go_wp2)
                   go_roundg k4
                   case measure => have := HJ1.out; have := HJ9.out; have := HK3.out; have := HK4.out; omega
                   case rel => exact ⟨(wrap64 (x9_3 + 1)), (by first | rfl | (simp; done) | (simp [*]; done)), H', ⟨by have := HJ1.out; have := HJ9.out; have := HK3.out; have := HK4.out; omega⟩, ⟨by (with_reducible repeat (first | apply Kd.R_alloc | apply Kd.R_drewN | apply Kd.R_drew)); exact HO_4.out⟩, ⟨by repeat (first | (with_reducible first | exact HB.out | apply below_alloc | apply pw_below_drewN | apply below_drew1) | exact HB.out)⟩⟩
                  ·replace c27 := Bool.eq_false_iff.mpr c27
                   subst c27
                   have H1 : (some false) = some r := by rw [if_neg (show ¬ (false = true) by decide)] at H; exact H
                   clear H
                   have H := H1
                   clear H1
                   obtain rfl := Option.some.inj H
                   have p767 : 0 ≤ (x12_4 : Int) := of_decide_eq_true (by first | (with_reducible assumption) | assumption)
                   have q767 : x12_4 < (t756.length : Int) := of_decide_eq_true (by first | (with_reducible assumption) | assumption)
                   obtain ⟨ad767, e767, hx767_0⟩ := Kd.at_int (Kd.R_reads' HO_4.out).2.2 x12_4 p767 q767
                   cases e767
                   replace p767 := eq_true p767
                   replace q767 := eq_true q767
                   have p768 : 0 ≤ (x9_3 : Int) := of_decide_eq_true (by first | (with_reducible assumption) | assumption)
                   have q768 : x9_3 < (t756.length : Int) := of_decide_eq_true (by first | (with_reducible assumption) | assumption)
                   obtain ⟨ad768, e768, hx768_0⟩ := Kd.at_int (Kd.R_reads' HO_4.out).2.2 x9_3 p768 q768
                   obtain rfl : ad767 = ad768 := (by injection e768)
                   replace p768 := eq_true p768
                   replace q768 := eq_true q768
                   go_wp2
                   repeat (go_quiet (fail); try go_wp2)
                   go_ret
                   exact ⟨by first | rfl | (simp [errW_none, errW_some] <;> rfl) | (simp [*, errW_none, errW_some] <;> rfl), by repeat (first | (with_reducible first | exact HB.out | apply below_alloc | apply pw_below_drewN | apply below_drew1) | exact HB.out)⟩
                 ·replace c26 := Bool.eq_false_iff.mpr c26
                  subst c26
                  have H1 : (some false) = some r := by rw [if_neg (show ¬ (false = true) by decide)] at H; exact H
                  clear H
                  have H := H1
                  clear H1
                  obtain rfl := Option.some.inj H
                  have p767 : 0 ≤ (x12_4 : Int) := of_decide_eq_true (by first | (with_reducible assumption) | assumption)
                  have q767 : x12_4 < (t756.length : Int) := of_decide_eq_true (by first | (with_reducible assumption) | assumption)
                  obtain ⟨ad767, e767, hx767_0⟩ := Kd.at_int (Kd.R_reads' HO_4.out).2.2 x12_4 p767 q767
                  cases e767
                  replace p767 := eq_true p767
                  replace q767 := eq_true q767
                  have p768 : 0 ≤ (x9_3 : Int) := of_decide_eq_true (by first | (with_reducible assumption) | assumption)
                  have q768 : x9_3 < (t756.length : Int) := of_decide_eq_true (by first | (with_reducible assumption) | assumption)
                  obtain ⟨ad768, e768, hx768_0⟩ := Kd.at_int (Kd.R_reads' HO_4.out).2.2 x9_3 p768 q768
                  obtain rfl : ad767 = ad768 := (by injection e768)
                  replace p768 := eq_true p768
                  replace q768 := eq_true q768
                  go_wp2
                  repeat (go_quiet (fail); try go_wp2)
                  go_ret
                  exact ⟨by first | rfl | (simp [errW_none, errW_some] <;> rfl) | (simp [*, errW_none, errW_some] <;> rfl), by repeat (first | (with_reducible first | exact HB.out | apply below_alloc | apply pw_below_drewN | apply below_drew1) | exact HB.out)⟩
                ·rw [if_neg c25] at H
                 have c25b0 : ((rd t756 x12_4) == (rd t756 x9_3)) = false := beq_eq_false_iff_ne.mpr c25
                 have c25b1 : ((rd t756 x12_4) != (rd t756 x9_3)) = true := bne_iff_ne.mpr c25
                 by_cases c28 : x10_4 = true
                 ·subst c28
                  have H1 : (if x11_4 = true then (pomadelaw07_PlaitJones.l1 k4 t756 x9_3 true true (wrap64 (x12_4 + 1))) else (pomadelaw07_PlaitJones.l1 k4 t756 x9_3 true ((rd t756 x12_4) == (wrap64 ((rd t756 x9_3) + 1))) (wrap64 (x12_4 + 1)))) = some r := by rw [if_pos rfl] at H; exact H
                  clear H
                  have H := H1
                  clear H1
                  by_cases c29 : x11_4 = true
                  ·subst c29
                   have H1 : (pomadelaw07_PlaitJones.l1 k4 t756 x9_3 true true (wrap64 (x12_4 + 1))) = some r := by rw [if_pos rfl] at H; exact H
                   clear H
                   have H := H1
                   clear H1
                   have H' := Aside0.mk H
                   clear H
                   have p767 : 0 ≤ (x12_4 : Int) := of_decide_eq_true (by first | (with_reducible assumption) | assumption)
                   have q767 : x12_4 < (t756.length : Int) := of_decide_eq_true (by first | (with_reducible assumption) | assumption)
                   obtain ⟨ad767, e767, hx767_0⟩ := Kd.at_int (Kd.R_reads' HO_4.out).2.2 x12_4 p767 q767
                   cases e767
                   replace p767 := eq_true p767
                   replace q767 := eq_true q767
                   have p768 : 0 ≤ (x9_3 : Int) := of_decide_eq_true (by first | (with_reducible assumption) | assumption)
                   have q768 : x9_3 < (t756.length : Int) := of_decide_eq_true (by first | (with_reducible assumption) | assumption)
                   obtain ⟨ad768, e768, hx768_0⟩ := Kd.at_int (Kd.R_reads' HO_4.out).2.2 x9_3 p768 q768
                   obtain rfl : ad767 = ad768 := (by injection e768)
                   replace p768 := eq_true p768
                   replace q768 := eq_true q768
                   go_wp2
                   repeat (go_quiet (fail); try go_wp2)
                   go_roundg k4
                   case measure => have := HJ1.out; have := HJ9.out; have := HK3.out; have := HK4.out; omega
                   case rel => exact ⟨(true), (true), (wrap64 (x12_4 + 1)), (by first | rfl | (simp; done) | (simp [*]; done)), (by first | rfl | (simp; done) | (simp [*]; done)), (by first | rfl | (simp; done) | (simp [*]; done)), H', ⟨by have := HJ1.out; have := HJ9.out; have := HK3.out; have := HK4.out; omega⟩, ⟨by (with_reducible repeat (first | apply Kd.R_alloc | apply Kd.R_drewN | apply Kd.R_drew)); exact HO_4.out⟩, ⟨by repeat (first | (with_reducible first | exact HB.out | apply below_alloc | apply pw_below_drewN | apply below_drew1) | exact HB.out)⟩⟩
                  ·replace c29 := Bool.eq_false_iff.mpr c29
                   subst c29
                   have H1 : (pomadelaw07_PlaitJones.l1 k4 t756 x9_3 true ((rd t756 x12_4) == (wrap64 ((rd t756 x9_3) + 1))) (wrap64 (x12_4 + 1))) = some r := by rw [if_neg (show ¬ (false = true) by decide)] at H; exact H
                   clear H
                   have H := H1
                   clear H1
                   have H' := Aside0.mk H
                   clear H
                   have p767 : 0 ≤ (x12_4 : Int) := of_decide_eq_true (by first | (with_reducible assumption) | assumption)
                   have q767 : x12_4 < (t756.length : Int) := of_decide_eq_true (by first | (with_reducible assumption) | assumption)
                   obtain ⟨ad767, e767, hx767_0⟩ := Kd.at_int (Kd.R_reads' HO_4.out).2.2 x12_4 p767 q767
                   cases e767
                   replace p767 := eq_true p767
                   replace q767 := eq_true q767
                   have p768 : 0 ≤ (x9_3 : Int) := of_decide_eq_true (by first | (with_reducible assumption) | assumption)
                   have q768 : x9_3 < (t756.length : Int) := of_decide_eq_true (by first | (with_reducible assumption) | assumption)
                   obtain ⟨ad768, e768, hx768_0⟩ := Kd.at_int (Kd.R_reads' HO_4.out).2.2 x9_3 p768 q768
                   obtain rfl : ad767 = ad768 := (by injection e768)
                   replace p768 := eq_true p768
                   replace q768 := eq_true q768
                   have p769 : 0 ≤ (x12_4 : Int) := of_decide_eq_true (by first | (with_reducible assumption) | assumption)
                   have q769 : x12_4 < (t756.length : Int) := of_decide_eq_true (by first | (with_reducible assumption) | assumption)
                   obtain ⟨ad769, e769, hx769_0⟩ := Kd.at_int (Kd.R_reads' HO_4.out).2.2 x12_4 p769 q769
                   obtain rfl : ad767 = ad769 := (by injection e769)
                   replace p769 := eq_true p769
                   replace q769 := eq_true q769
                   have p770 : 0 ≤ (x9_3 : Int) := of_decide_eq_true (by first | (with_reducible assumption) | assumption)
                   have q770 : x9_3 < (t756.length : Int) := of_decide_eq_true (by first | (with_reducible assumption) | assumption)
                   obtain ⟨ad770, e770, hx770_0⟩ := Kd.at_int (Kd.R_reads' HO_4.out).2.2 x9_3 p770 q770
                   obtain rfl : ad767 = ad770 := (by injection e770)
                   replace p770 := eq_true p770
                   replace q770 := eq_true q770
                   go_wp2
                   repeat (go_quiet (fail); try go_wp2)
                   go_roundg k4
                   case measure => have := HJ1.out; have := HJ9.out; have := HK3.out; have := HK4.out; omega
                   case rel => exact ⟨(true), (((rd t756 x12_4) == (wrap64 ((rd t756 x9_3) + 1)))), (wrap64 (x12_4 + 1)), (by first | rfl | (simp; done) | (simp [*]; done)), (by first | rfl | (simp; done) | (simp [*]; done)), (by first | rfl | (simp; done) | (simp [*]; done)), H', ⟨by have := HJ1.out; have := HJ9.out; have := HK3.out; have := HK4.out; omega⟩, ⟨by (with_reducible repeat (first | apply Kd.R_alloc | apply Kd.R_drewN | apply Kd.R_drew)); exact HO_4.out⟩, ⟨by repeat (first | (with_reducible first | exact HB.out | apply below_alloc | apply pw_below_drewN | apply below_drew1) | exact HB.out)⟩⟩
                 ·replace c28 := Bool.eq_false_iff.mpr c28
                  subst c28
                  have H1 : (if x11_4 = true then (pomadelaw07_PlaitJones.l1 k4 t756 x9_3 ((rd t756 x12_4) == (wrap64 ((rd t756 x9_3) - 1))) true (wrap64 (x12_4 + 1))) else (pomadelaw07_PlaitJones.l1 k4 t756 x9_3 ((rd t756 x12_4) == (wrap64 ((rd t756 x9_3) - 1))) ((rd t756 x12_4) == (wrap64 ((rd t756 x9_3) + 1))) (wrap64 (x12_4 + 1)))) = some r := by rw [if_neg (show ¬ (false = true) by decide)] at H; exact H
                  clear H
                  have H := H1
                  clear H1
                  by_cases c30 : x11_4 = true
                  ·subst c30
                   have H1 : (pomadelaw07_PlaitJones.l1 k4 t756 x9_3 ((rd t756 x12_4) == (wrap64 ((rd t756 x9_3) - 1))) true (wrap64 (x12_4 + 1))) = some r := by rw [if_pos rfl] at H; exact H
                   clear H
                   have H := H1
                   clear H1
                   have H' := Aside0.mk H
                   clear H
                   have p767 : 0 ≤ (x12_4 : Int) := of_decide_eq_true (by first | (with_reducible assumption) | assumption)
                   have q767 : x12_4 < (t756.length : Int) := of_decide_eq_true (by first | (with_reducible assumption) | assumption)
                   obtain ⟨ad767, e767, hx767_0⟩ := Kd.at_int (Kd.R_reads' HO_4.out).2.2 x12_4 p767 q767
                   cases e767
                   replace p767 := eq_true p767
                   replace q767 := eq_true q767
                   have p768 : 0 ≤ (x9_3 : Int) := of_decide_eq_true (by first | (with_reducible assumption) | assumption)
                   have q768 : x9_3 < (t756.length : Int) := of_decide_eq_true (by first | (with_reducible assumption) | assumption)
                   obtain ⟨ad768, e768, hx768_0⟩ := Kd.at_int (Kd.R_reads' HO_4.out).2.2 x9_3 p768 q768
                   obtain rfl : ad767 = ad768 := (by injection e768)
                   replace p768 := eq_true p768
                   replace q768 := eq_true q768
                   have p771 : 0 ≤ (x12_4 : Int) := of_decide_eq_true (by first | (with_reducible assumption) | assumption)
                   have q771 : x12_4 < (t756.length : Int) := of_decide_eq_true (by first | (with_reducible assumption) | assumption)
                   obtain ⟨ad771, e771, hx771_0⟩ := Kd.at_int (Kd.R_reads' HO_4.out).2.2 x12_4 p771 q771
                   obtain rfl : ad767 = ad771 := (by injection e771)
                   replace p771 := eq_true p771
                   replace q771 := eq_true q771
                   have p772 : 0 ≤ (x9_3 : Int) := of_decide_eq_true (by first | (with_reducible assumption) | assumption)
                   have q772 : x9_3 < (t756.length : Int) := of_decide_eq_true (by first | (with_reducible assumption) | assumption)
                   obtain ⟨ad772, e772, hx772_0⟩ := Kd.at_int (Kd.R_reads' HO_4.out).2.2 x9_3 p772 q772
                   obtain rfl : ad767 = ad772 := (by injection e772)
                   replace p772 := eq_true p772
                   replace q772 := eq_true q772
                   go_wp2
                   repeat (go_quiet (fail); try go_wp2)
                   go_roundg k4
                   case measure => have := HJ1.out; have := HJ9.out; have := HK3.out; have := HK4.out; omega
                   case rel => exact ⟨(((rd t756 x12_4) == (wrap64 ((rd t756 x9_3) - 1)))), (true), (wrap64 (x12_4 + 1)), (by first | rfl | (simp; done) | (simp [*]; done)), (by first | rfl | (simp; done) | (simp [*]; done)), (by first | rfl | (simp; done) | (simp [*]; done)), H', ⟨by have := HJ1.out; have := HJ9.out; have := HK3.out; have := HK4.out; omega⟩, ⟨by (with_reducible repeat (first | apply Kd.R_alloc | apply Kd.R_drewN | apply Kd.R_drew)); exact HO_4.out⟩, ⟨by repeat (first | (with_reducible first | exact HB.out | apply below_alloc | apply pw_below_drewN | apply below_drew1) | exact HB.out)⟩⟩
                  ·replace c30 := Bool.eq_false_iff.mpr c30
                   subst c30
                   have H1 : (pomadelaw07_PlaitJones.l1 k4 t756 x9_3 ((rd t756 x12_4) == (wrap64 ((rd t756 x9_3) - 1))) ((rd t756 x12_4) == (wrap64 ((rd t756 x9_3) + 1))) (wrap64 (x12_4 + 1))) = some r := by rw [if_neg (show ¬ (false = true) by decide)] at H; exact H
                   clear H
                   have H := H1
                   clear H1
                   have H' := Aside0.mk H
                   clear H
                   have p767 : 0 ≤ (x12_4 : Int) := of_decide_eq_true (by first | (with_reducible assumption) | assumption)
                   have q767 : x12_4 < (t756.length : Int) := of_decide_eq_true (by first | (with_reducible assumption) | assumption)
                   obtain ⟨ad767, e767, hx767_0⟩ := Kd.at_int (Kd.R_reads' HO_4.out).2.2 x12_4 p767 q767
                   cases e767
                   replace p767 := eq_true p767
                   replace q767 := eq_true q767
                   have p768 : 0 ≤ (x9_3 : Int) := of_decide_eq_true (by first | (with_reducible assumption) | assumption)
                   have q768 : x9_3 < (t756.length : Int) := of_decide_eq_true (by first | (with_reducible assumption) | assumption)
                   obtain ⟨ad768, e768, hx768_0⟩ := Kd.at_int (Kd.R_reads' HO_4.out).2.2 x9_3 p768 q768
                   obtain rfl : ad767 = ad768 := (by injection e768)
                   replace p768 := eq_true p768
                   replace q768 := eq_true q768
                   have p771 : 0 ≤ (x12_4 : Int) := of_decide_eq_true (by first | (with_reducible assumption) | assumption)
                   have q771 : x12_4 < (t756.length : Int) := of_decide_eq_true (by first | (with_reducible assumption) | assumption)
                   obtain ⟨ad771, e771, hx771_0⟩ := Kd.at_int (Kd.R_reads' HO_4.out).2.2 x12_4 p771 q771
                   obtain rfl : ad767 = ad771 := (by injection e771)
                   replace p771 := eq_true p771
                   replace q771 := eq_true q771
                   have p772 : 0 ≤ (x9_3 : Int) := of_decide_eq_true (by first | (with_reducible assumption) | assumption)
                   have q772 : x9_3 < (t756.length : Int) := of_decide_eq_true (by first | (with_reducible assumption) | assumption)
                   obtain ⟨ad772, e772, hx772_0⟩ := Kd.at_int (Kd.R_reads' HO_4.out).2.2 x9_3 p772 q772
                   obtain rfl : ad767 = ad772 := (by injection e772)
                   replace p772 := eq_true p772
                   replace q772 := eq_true q772
                   have p773 : 0 ≤ (x12_4 : Int) := of_decide_eq_true (by first | (with_reducible assumption) | assumption)
                   have q773 : x12_4 < (t756.length : Int) := of_decide_eq_true (by first | (with_reducible assumption) | assumption)
                   obtain ⟨ad773, e773, hx773_0⟩ := Kd.at_int (Kd.R_reads' HO_4.out).2.2 x12_4 p773 q773
                   obtain rfl : ad767 = ad773 := (by injection e773)
                   replace p773 := eq_true p773
                   replace q773 := eq_true q773
                   have p774 : 0 ≤ (x9_3 : Int) := of_decide_eq_true (by first | (with_reducible assumption) | assumption)
                   have q774 : x9_3 < (t756.length : Int) := of_decide_eq_true (by first | (with_reducible assumption) | assumption)
                   obtain ⟨ad774, e774, hx774_0⟩ := Kd.at_int (Kd.R_reads' HO_4.out).2.2 x9_3 p774 q774
                   obtain rfl : ad767 = ad774 := (by injection e774)
                   replace p774 := eq_true p774
                   replace q774 := eq_true q774
                   go_wp2
                   repeat (go_quiet (fail); try go_wp2)
                   go_roundg k4
                   case measure => have := HJ1.out; have := HJ9.out; have := HK3.out; have := HK4.out; omega
                   case rel => exact ⟨(((rd t756 x12_4) == (wrap64 ((rd t756 x9_3) - 1)))), (((rd t756 x12_4) == (wrap64 ((rd t756 x9_3) + 1)))), (wrap64 (x12_4 + 1)), (by first | rfl | (simp; done) | (simp [*]; done)), (by first | rfl | (simp; done) | (simp [*]; done)), (by first | rfl | (simp; done) | (simp [*]; done)), H', ⟨by have := HJ1.out; have := HJ9.out; have := HK3.out; have := HK4.out; omega⟩, ⟨by (with_reducible repeat (first | apply Kd.R_alloc | apply Kd.R_drewN | apply Kd.R_drew)); exact HO_4.out⟩, ⟨by repeat (first | (with_reducible first | exact HB.out | apply below_alloc | apply pw_below_drewN | apply below_drew1) | exact HB.out)⟩⟩
               ·rw [if_neg c24] at H
                exact absurd H (by simp)
              ·rw [if_neg c23] at H
               exact absurd H (by simp)
             ·rw [if_neg c22] at H
              exact absurd H (by simp)
            ·rw [if_neg c21] at H
             have c21b0 : decide (x12_4 < (t756.length : Int)) = false := decide_eq_false c21
             clear c21
             have H' := Aside0.mk H
             clear H
             go_wp2
             repeat (go_quiet (fail); try go_wp2)
             go_roundg k4
             case measure => have := HJ1.out; have := HJ9.out; have := HK3.out; have := HK4.out; omega
             case rel => exact ⟨(wrap64 (x9_3 + 1)), (by first | rfl | (simp; done) | (simp [*]; done)), H', ⟨by have := HJ1.out; have := HJ9.out; have := HK3.out; have := HK4.out; omega⟩, ⟨by (with_reducible repeat (first | apply Kd.R_alloc | apply Kd.R_drewN | apply Kd.R_drew)); exact HO_4.out⟩, ⟨by repeat (first | (with_reducible first | exact HB.out | apply below_alloc | apply pw_below_drewN | apply below_drew1) | exact HB.out)⟩⟩
         ·rw [if_neg c20] at H
          have c20b0 : decide (x9_3 < (t756.length : Int)) = false := decide_eq_false c20
          clear c20
          replace H := Option.bind_eq_some_iff.mp H
          obtain ⟨t766, A310, H⟩ := H
          replace H : (some t766) = some r := H
          have A31 := Aside0.mk A310
          clear A310
          obtain rfl := Option.some.inj H
          go_wp2_with (first | (go_at_call 20; (with_reducible refine (pomadelaw07_alive.calls  t766 _ A31.out).mono ?_); rintro e w32 ⟨rfl, hb⟩; have n0_ := Aside0.mk (Kd.R_below (by (with_reducible repeat (first | apply Kd.R_alloc | apply Kd.R_drewN | apply Kd.R_drew)); exact HO_4.out) hb); have n1_ := Aside0.mk (below_step (by repeat (first | (with_reducible first | exact HB.out | apply below_alloc | apply pw_below_drewN | apply below_drew1) | exact HB.out)) hb); clear HO_4; clear HB; have HO_4 := n0_; have HB := n1_; clear n0_ n1_; (try clear hb); (try clear hb2); (try clear hk); (try clear hi)))
          repeat (go_quiet (first | (go_at_call 20; (with_reducible refine (pomadelaw07_alive.calls  t766 _ A31.out).mono ?_); rintro e w32 ⟨rfl, hb⟩; have n0_ := Aside0.mk (Kd.R_below (by (with_reducible repeat (first | apply Kd.R_alloc | apply Kd.R_drewN | apply Kd.R_drew)); exact HO_4.out) hb); have n1_ := Aside0.mk (below_step (by repeat (first | (with_reducible first | exact HB.out | apply below_alloc | apply pw_below_drewN | apply below_drew1) | exact HB.out)) hb); clear HO_4; clear HB; have HO_4 := n0_; have HB := n1_; clear n0_ n1_; (try clear hb); (try clear hb2); (try clear hk); (try clear hi))); try go_wp2_with (first | (go_at_call 20; (with_reducible refine (pomadelaw07_alive.calls  t766 _ A31.out).mono ?_); rintro e w32 ⟨rfl, hb⟩; have n0_ := Aside0.mk (Kd.R_below (by (with_reducible repeat (first | apply Kd.R_alloc | apply Kd.R_drewN | apply Kd.R_drew)); exact HO_4.out) hb); have n1_ := Aside0.mk (below_step (by repeat (first | (with_reducible first | exact HB.out | apply below_alloc | apply pw_below_drewN | apply below_drew1) | exact HB.out)) hb); clear HO_4; clear HB; have HO_4 := n0_; have HB := n1_; clear n0_ n1_; (try clear hb); (try clear hb2); (try clear hk); (try clear hi))))
          go_ret
          exact ⟨by first | rfl | (simp [errW_none, errW_some] <;> rfl) | (simp [*, errW_none, errW_some] <;> rfl), by repeat (first | (with_reducible first | exact HB.out | apply below_alloc | apply pw_below_drewN | apply below_drew1) | exact HB.out)⟩
/-- THE ONE PURE STATEMENT of pomadelaw07_PlaitJones: yours. -/
def pomadelaw07_PlaitJones.Pure : Prop := ∀ (l0 : List Int), l0.length ≤ maxLen → l0.length * 8 ≤ 140737488351232 → (∀ x ∈ l0, (Lit.int .i64 x).wf = true) → ∃ k, pomadelaw07_PlaitJones.f k l0 = some true
theorem pomadelaw07_PlaitJones.walk (P : pomadelaw07_PlaitJones.Pure) (a0 : Option Addr) (len0 cap0 : Nat) (z0 : List Int) (w : World) (w0 : (a0 = none ∧ len0 = 0 ∧ cap0 = 0 ∧ z0 = []) ∨ ∃ x, a0 = some x ∧ len0 ≤ cap0 ∧ cap0 ≤ maxLen ∧ z0.length = cap0 ∧ (∀ i, i < z0.length → w.cell? (x.add i) = some (.int .i64 (z0.getD i 0))) ∧ ∀ n ∈ z0, (Lit.int .i64 n).wf = true) (y0 : len0 * 8 ≤ 140737488351232) :
  Calls Try.prog 16 #[.slice a0 len0 cap0] w fun e w' => e = .returned (.bool true) ∧ Below w.heap.size w w' := by
 obtain ⟨l0, rfl, hr0, hm0, hw0, hc0⟩ := ReadsInt.ofRowC w0
 obtain ⟨k, h⟩ := P l0 hm0 y0 hw0
 refine (pomadelaw07_PlaitJones.calls k _ _ l0 true w (Kd.C_of_reads (d := (0 : Int)) (h1 := fun _ => rfl) hr0) hc0 h).mono ?_
 rintro e w' ⟨rfl, hd⟩
 exact ⟨rfl, hd⟩
end Go.Proofs.Ytjfkompfkgjdaaa.PC
end
section
/- Gluing matchings: pairs of points joined one after another; ways, closed curves, order, names, crossings. Plain. -/
namespace Go.Proofs.Ytjfkompfkgjdaaa.G
def Inv2 (σ : Nat → Nat) : Prop := ∀ x, σ (σ x) = x
theorem Inv2.inj {σ : Nat → Nat} (h : Inv2 σ) {a b : Nat} (e : σ a = σ b) : a = b := by rw [← h a, e, h b]
def con (x y : Nat) (σ : Nat → Nat) (z : Nat) : Nat :=
  if z = x ∨ z = y then z else if z = σ x then σ y else if z = σ y then σ x else σ z
def lp (x y : Nat) (σ : Nat → Nat) : Nat := if σ x = y then 1 else 0
def glue : List (Nat × Nat) → (Nat → Nat) → (Nat → Nat) × Nat
  | [], σ => (σ, 0)
  | (x, y) :: l, σ => ((glue l (con x y σ)).1, (glue l (con x y σ)).2 + lp x y σ)
theorem con_inv {σ : Nat → Nat} {x y : Nat} (h : Inv2 σ) (hx : σ x ≠ x) (hy : σ y ≠ y) (hn : x ≠ y) : Inv2 (con x y σ) := by
  intro z
  have hi : ∀ a b, σ a = σ b → a = b := fun a b => h.inj
  have h1 := h x
  have h2 := h y
  have h3 := h z
  unfold con
  grind
theorem con_alive {σ : Nat → Nat} {x y z : Nat} (h : Inv2 σ) (hn : x ≠ y) (zx : z ≠ x) (zy : z ≠ y) (hz : σ z ≠ z) : con x y σ z ≠ z := by
  have hi : ∀ a b, σ a = σ b → a = b := fun a b => h.inj
  have h1 := h x
  have h2 := h y
  have h3 := h z
  unfold con
  grind
theorem con_dead {σ : Nat → Nat} {x y z : Nat} (h : Inv2 σ) (hx : σ x ≠ x) (hy : σ y ≠ y) (hz : σ z = z) : con x y σ z = z := by
  have h1 := h x
  have h2 := h y
  unfold con
  grind
set_option maxHeartbeats 4000000 in
theorem con_comm {σ : Nat → Nat} {x y u v : Nat} (h : Inv2 σ) (hx : σ x ≠ x) (hy : σ y ≠ y) (hu : σ u ≠ u) (hv : σ v ≠ v) (xy : x ≠ y) (uv : u ≠ v) (xu : x ≠ u) (xv : x ≠ v) (yu : y ≠ u) (yv : y ≠ v) (z : Nat) :
    con u v (con x y σ) z = con x y (con u v σ) z := by
  have hi : ∀ a b, σ a = σ b → a = b := fun a b => h.inj
  have h1 := h x
  have h2 := h y
  have h3 := h z
  have h4 := h u
  have h5 := h v
  unfold con
  grind (splits := 40)
theorem lp_comm {σ : Nat → Nat} {x y u v : Nat} (h : Inv2 σ) (hx : σ x ≠ x) (hy : σ y ≠ y) (hu : σ u ≠ u) (hv : σ v ≠ v) (xy : x ≠ y) (uv : u ≠ v) (xu : x ≠ u) (xv : x ≠ v) (yu : y ≠ u) (yv : y ≠ v) :
    lp u v (con x y σ) + lp x y σ = lp x y (con u v σ) + lp u v σ := by
  have hi : ∀ a b, σ a = σ b → a = b := fun a b => h.inj
  have h1 := h x
  have h2 := h y
  have h4 := h u
  have h5 := h v
  unfold lp con
  grind
/-- the partner by a list of pairs -/
def tau : List (Nat × Nat) → Nat → Nat
  | [], z => z
  | (x, y) :: l, z => if z = x then y else if z = y then x else tau l z
/-- a point of the pairs -/
def pts (l : List (Nat × Nat)) (z : Nat) : Prop := ∃ p ∈ l, z = p.1 ∨ z = p.2
/-- the pairs are of different points, all alive -/
def OK (σ : Nat → Nat) : List (Nat × Nat) → Prop
  | [] => True
  | (x, y) :: l => x ≠ y ∧ σ x ≠ x ∧ σ y ≠ y ∧ ¬ pts l x ∧ ¬ pts l y ∧ OK σ l
theorem pts_nil (z : Nat) : ¬ pts [] z := by rintro ⟨p, h, _⟩; simp at h
theorem pts_cons (x y : Nat) (l : List (Nat × Nat)) (z : Nat) : pts ((x, y) :: l) z ↔ z = x ∨ z = y ∨ pts l z := by
  constructor
  · rintro ⟨p, h, e⟩
    rcases List.mem_cons.1 h with rfl | h
    · rcases e with e | e
      · exact .inl e
      · exact .inr (.inl e)
    · exact .inr (.inr ⟨p, h, e⟩)
  · rintro (e | e | ⟨p, h, e⟩)
    · exact ⟨(x, y), List.mem_cons_self, .inl e⟩
    · exact ⟨(x, y), List.mem_cons_self, .inr e⟩
    · exact ⟨p, List.mem_cons_of_mem _ h, e⟩
theorem OK.alive {σ : Nat → Nat} {l : List (Nat × Nat)} (h : OK σ l) {z : Nat} (hz : pts l z) : σ z ≠ z := by
  induction l with
  | nil => exact absurd hz (pts_nil z)
  | cons p l ih =>
    obtain ⟨x, y⟩ := p
    obtain ⟨_, h1, h2, _, _, h3⟩ := h
    rcases (pts_cons _ _ _ _).1 hz with rfl | rfl | hz
    · exact h1
    · exact h2
    · exact ih h3 hz
theorem OK.con {σ : Nat → Nat} (hi : Inv2 σ) {x y : Nat} {l : List (Nat × Nat)} (xy : x ≠ y) (hx : ¬ pts l x) (hy : ¬ pts l y) (h : OK σ l) : OK (con x y σ) l := by
  induction l with
  | nil => trivial
  | cons p l ih =>
    obtain ⟨u, v⟩ := p
    obtain ⟨h0, h1, h2, h3, h4, h5⟩ := h
    simp only [pts_cons, not_or] at hx hy
    exact ⟨h0, con_alive hi xy (Ne.symm hx.1) (Ne.symm hy.1) h1, con_alive hi xy (Ne.symm hx.2.1) (Ne.symm hy.2.1) h2, h3, h4, ih hx.2.2 hy.2.2 h5⟩
theorem tau_fst (x y : Nat) (l : List (Nat × Nat)) : tau ((x, y) :: l) x = y := by simp [tau]
theorem tau_snd {x y : Nat} (l : List (Nat × Nat)) (h : x ≠ y) : tau ((x, y) :: l) y = x := by simp only [tau]; rw [if_neg (Ne.symm h)]; simp
theorem tau_out {σ : Nat → Nat} {l : List (Nat × Nat)} (h : OK σ l) {z : Nat} : tau l z = z ↔ ¬ pts l z := by
  induction l with
  | nil => simp [tau, pts_nil]
  | cons p l ih =>
    obtain ⟨x, y⟩ := p
    obtain ⟨h0, _, _, _, _, h5⟩ := h
    have := ih h5
    simp only [tau, pts_cons]
    grind
theorem tau_pts {σ : Nat → Nat} {l : List (Nat × Nat)} (h : OK σ l) {z : Nat} (hz : pts l z) : pts l (tau l z) := by
  induction l with
  | nil => exact absurd hz (pts_nil z)
  | cons p l ih =>
    obtain ⟨x, y⟩ := p
    obtain ⟨h0, _, _, h3, h4, h5⟩ := h
    have := ih h5
    simp only [tau, pts_cons] at hz ⊢
    grind
theorem tau_inv {σ : Nat → Nat} {l : List (Nat × Nat)} (h : OK σ l) : Inv2 (tau l) := by
  induction l with
  | nil => intro z; rfl
  | cons p l ih =>
    obtain ⟨x, y⟩ := p
    intro z
    obtain ⟨h0, _, _, h3, h4, h5⟩ := h
    have h6 := ih h5 z
    have h7 := @tau_pts _ _ h5 z
    have h8 := @tau_out _ _ h5 z
    simp only [tau]
    grind
/-! ### ways -/
inductive Path (σ : Nat → Nat) (l : List (Nat × Nat)) : Nat → Nat → Prop
  | out (p : Nat) : ¬ pts l (σ p) → Path σ l p (σ p)
  | via (p q : Nat) : pts l (σ p) → Path σ l (tau l (σ p)) q → Path σ l p q
theorem path_con {σ : Nat → Nat} (hi : Inv2 σ) {x y : Nat} {l : List (Nat × Nat)} (h : OK σ ((x, y) :: l)) {p q : Nat} (hp : Path σ ((x, y) :: l) p q) :
    (p ≠ x → p ≠ y → Path (con x y σ) l p q) ∧ (p = y → ∀ r, σ r = x → r ≠ x → r ≠ y → Path (con x y σ) l r q) ∧ (p = x → ∀ r, σ r = y → r ≠ x → r ≠ y → Path (con x y σ) l r q) := by
  have hk := h
  obtain ⟨h0, h1, h2, h3, h4, h5⟩ := h
  have e1 : ∀ r, r ≠ x → r ≠ y → σ r ≠ x → σ r ≠ y → con x y σ r = σ r := fun r a b c d => by
    have := hi r; have := hi x; have := hi y; unfold con; grind
  have e2 : ∀ r, r ≠ x → r ≠ y → σ r = x → con x y σ r = σ y := fun r a b c => by
    have := hi r; have := hi x; have := hi y; unfold con; grind
  have e3 : ∀ r, r ≠ x → r ≠ y → σ r = y → con x y σ r = σ x := fun r a b c => by
    have := hi r; have := hi x; have := hi y; unfold con; grind
  induction hp with
  | out p hn =>
    simp only [pts_cons, not_or] at hn
    refine ⟨fun a b => ?_, fun a r b c d => ?_, fun a r b c d => ?_⟩
    · have := e1 p a b hn.1 hn.2.1
      rw [← this]; exact .out _ (by rw [this]; exact hn.2.2)
    · subst a
      have := e2 r c d b
      rw [← this]; exact .out _ (by rw [this]; exact hn.2.2)
    · subst a
      have := e3 r c d b
      rw [← this]; exact .out _ (by rw [this]; exact hn.2.2)
  | via p q hn hp ih =>
    have inside : ∀ r, r ≠ x → r ≠ y → con x y σ r = σ p → σ p ≠ x → σ p ≠ y → Path (con x y σ) l r q := by
      intro r a b c d e
      have hl : pts l (σ p) := by
        rcases (pts_cons _ _ _ _).1 hn with f | f | f
        · exact absurd f d
        · exact absurd f e
        · exact f
      have ht : tau ((x, y) :: l) (σ p) = tau l (σ p) := by simp only [tau]; rw [if_neg d, if_neg e]
      have hw := tau_pts h5 hl
      rw [ht] at ih
      refine .via _ _ (by rw [c]; exact hl) ?_
      rw [c]
      exact ih.1 (fun f => h3 (f ▸ hw)) (fun f => h4 (f ▸ hw))
    refine ⟨fun a b => ?_, fun a r b c d => ?_, fun a r b c d => ?_⟩
    · by_cases ex : σ p = x
      · exact ih.2.1 (by rw [ex]; simp [tau]) p ex a b
      · by_cases ey : σ p = y
        · exact ih.2.2 (by rw [ey]; simp only [tau]; rw [if_neg (Ne.symm h0)]; simp) p ey a b
        · exact inside p a b (e1 p a b ex ey) ex ey
    · subst a
      refine inside r c d (e2 r c d b) (fun f => ?_) h2
      have := hi r; rw [b, ← f, hi p] at this; exact d this.symm
    · subst a
      refine inside r c d (e3 r c d b) h1 (fun f => ?_)
      have := hi r; rw [b, ← f, hi p] at this; exact c this.symm
theorem path_glue (l : List (Nat × Nat)) : ∀ (σ : Nat → Nat), Inv2 σ → OK σ l → ∀ {p q : Nat}, ¬ pts l p → Path σ l p q → (glue l σ).1 p = q := by
  induction l with
  | nil =>
    intro σ _ _ p q _ hp
    cases hp with
    | out _ _ => rfl
    | via _ _ h _ => exact absurd h (pts_nil _)
  | cons e l ih =>
    obtain ⟨x, y⟩ := e
    intro σ hi h p q hn hp
    simp only [pts_cons, not_or] at hn
    have h' := h
    obtain ⟨h0, h1, h2, h3, h4, h5⟩ := h'
    exact ih _ (con_inv hi h1 h2 h0) (h5.con hi h0 h3 h4) hn.2.2 ((path_con hi h hp).1 hn.1 hn.2.1)
/-! ### components -/
inductive Conn (σ τ : Nat → Nat) (x : Nat) : Nat → Prop
  | refl : Conn σ τ x x
  | s (y : Nat) : Conn σ τ x y → Conn σ τ x (σ y)
  | t (y : Nat) : Conn σ τ x y → Conn σ τ x (τ y)
theorem Conn.trans {σ τ : Nat → Nat} {x y z : Nat} (h : Conn σ τ x y) (k : Conn σ τ y z) : Conn σ τ x z := by
  induction k with
  | refl => exact h
  | s _ _ ih => exact .s _ ih
  | t _ _ ih => exact .t _ ih
theorem Conn.symm {σ τ : Nat → Nat} (hs : Inv2 σ) (ht : Inv2 τ) {x y : Nat} (h : Conn σ τ x y) : Conn σ τ y x := by
  induction h with
  | refl => exact .refl
  | s y _ ih => exact Conn.trans (by have := Conn.s (σ := σ) (τ := τ) (x := σ y) _ .refl; rwa [hs y] at this) ih
  | t y _ ih => exact Conn.trans (by have := Conn.t (σ := σ) (τ := τ) (x := τ y) _ .refl; rwa [ht y] at this) ih
theorem conn_con1 {σ : Nat → Nat} (hi : Inv2 σ) {x y : Nat} {l : List (Nat × Nat)} (h : OK σ ((x, y) :: l)) {u v : Nat} (ux : u ≠ x) (uy : u ≠ y) (hc : Conn (con x y σ) (tau l) u v) : v ≠ x ∧ v ≠ y ∧ Conn σ (tau ((x, y) :: l)) u v := by
  obtain ⟨h0, h1, h2, h3, h4, h5⟩ := h
  induction hc with
  | refl => exact ⟨ux, uy, .refl⟩
  | s v _ ih =>
    obtain ⟨a, b, c⟩ := ih
    have i1 := hi v
    have i2 := hi x
    have i3 := hi y
    have s1 := Conn.s (x := u) _ c
    by_cases e : v = σ x
    · have s2 : Conn σ (tau ((x, y) :: l)) u y := by
        have := Conn.t _ s1; rw [e, i2, tau_fst] at this; exact this
      have : con x y σ v = σ y := by unfold con; grind
      rw [this]; exact ⟨by grind, by grind, .s _ s2⟩
    · by_cases e' : v = σ y
      · have s2 : Conn σ (tau ((x, y) :: l)) u x := by
          have := Conn.t _ s1; rw [e', i3, tau_snd _ h0] at this; exact this
        have : con x y σ v = σ x := by unfold con; grind
        rw [this]; exact ⟨by grind, by grind, .s _ s2⟩
      · have : con x y σ v = σ v := by unfold con; grind
        rw [this]; exact ⟨by grind, by grind, s1⟩
  | t v _ ih =>
    obtain ⟨a, b, c⟩ := ih
    have s1 := Conn.t _ c
    have e : tau ((x, y) :: l) v = tau l v := by simp only [tau]; rw [if_neg a, if_neg b]
    rw [e] at s1
    have k1 := @tau_out _ _ h5 v
    have k2 := @tau_pts _ _ h5 v
    exact ⟨by grind, by grind, s1⟩
theorem conn_con2 {σ : Nat → Nat} (hi : Inv2 σ) {x y : Nat} {l : List (Nat × Nat)} (h : OK σ ((x, y) :: l)) {u v : Nat} (ux : u ≠ x) (uy : u ≠ y) (hc : Conn σ (tau ((x, y) :: l)) u v) : (v ≠ x → v ≠ y → Conn (con x y σ) (tau l) u v) ∧ (v = x ∨ v = y → σ v ≠ x ∧ σ v ≠ y ∧ Conn (con x y σ) (tau l) u (σ v)) := by
  obtain ⟨h0, h1, h2, h3, h4, h5⟩ := h
  have i2 := hi x
  have i3 := hi y
  induction hc with
  | refl => exact ⟨fun _ _ => .refl, fun e => by rcases e with e | e; exact absurd e ux; exact absurd e uy⟩
  | s v _ ih =>
    have i1 := hi v
    by_cases a : v = x ∨ v = y
    · obtain ⟨b, c, d⟩ := ih.2 a
      exact ⟨fun _ _ => d, fun e => by grind⟩
    · have a1 : v ≠ x := fun e => a (.inl e)
      have a2 : v ≠ y := fun e => a (.inr e)
      have d := ih.1 a1 a2
      refine ⟨fun e f => ?_, fun e => by rw [i1]; exact ⟨a1, a2, d⟩⟩
      have := Conn.s _ d
      have g : con x y σ v = σ v := by unfold con; grind
      rwa [g] at this
  | t v _ ih =>
    by_cases a : v = x ∨ v = y
    · obtain ⟨b, c, d⟩ := ih.2 a
      have := Conn.s _ d
      refine ⟨fun e f => ?_, fun e => ?_⟩
      · rcases a with a | a <;> subst a <;> simp only [tau] at e f <;> grind
      · rcases a with a | a
        · subst a
          have g : con v y σ (σ v) = σ y := by unfold con; grind
          have k : tau ((v, y) :: l) v = y := by simp [tau]
          rw [k]; rw [g] at this
          exact ⟨by grind, by grind, this⟩
        · subst a
          have g : con x v σ (σ v) = σ x := by unfold con; grind
          have k : tau ((x, v) :: l) v = x := by simp only [tau]; rw [if_neg (Ne.symm h0)]; simp
          rw [k]; rw [g] at this
          exact ⟨by grind, by grind, this⟩
    · have a1 : v ≠ x := fun e => a (.inl e)
      have a2 : v ≠ y := fun e => a (.inr e)
      have d := Conn.t _ (ih.1 a1 a2)
      have e : tau ((x, y) :: l) v = tau l v := by simp only [tau]; rw [if_neg a1, if_neg a2]
      have k1 := @tau_out _ _ h5 v
      have k2 := @tau_pts _ _ h5 v
      rw [e]
      exact ⟨fun _ _ => d, fun f => by grind⟩
/-! ### how many loops -/
def prs (f g : Nat → Nat) : Nat → List (Nat × Nat)
  | 0 => []
  | k + 1 => (f k, g k) :: prs f g k
theorem pts_prs (f g : Nat → Nat) (k z : Nat) : pts (prs f g k) z ↔ ∃ i, i < k ∧ (z = f i ∨ z = g i) := by
  induction k with
  | zero => simp [prs, pts_nil]
  | succ k ih =>
    simp only [prs, pts_cons, ih]
    constructor
    · rintro (e | e | ⟨i, h, e⟩)
      · exact ⟨k, by omega, .inl e⟩
      · exact ⟨k, by omega, .inr e⟩
      · exact ⟨i, by omega, e⟩
    · rintro ⟨i, h, e⟩
      by_cases c : i = k
      · subst c
        rcases e with e | e
        · exact .inl e
        · exact .inr (.inl e)
      · exact .inr (.inr ⟨i, by omega, e⟩)
open Classical in
/-- how many below k -/
noncomputable def cntP (P : Nat → Prop) : Nat → Nat
  | 0 => 0
  | k + 1 => cntP P k + if P k then 1 else 0
theorem cntP_congr {P Q : Nat → Prop} (k : Nat) (h : ∀ i, i < k → (P i ↔ Q i)) : cntP P k = cntP Q k := by
  induction k with
  | zero => rfl
  | succ k ih =>
    simp only [cntP]
    rw [ih (fun i hi => h i (by omega))]
    have := h k (by omega)
    by_cases c : P k
    · rw [if_pos c, if_pos (this.1 c)]
    · rw [if_neg c, if_neg (fun d => c (this.2 d))]
theorem cntP_le (P : Nat → Prop) (k : Nat) : cntP P k ≤ k := by
  induction k with
  | zero => exact Nat.le_refl _
  | succ k ih => simp only [cntP]; split <;> omega
/-- pair j is the first of its closed curve -/
def Mn (f g : Nat → Nat) (k : Nat) (σ : Nat → Nat) (j : Nat) : Prop := ∀ z, Conn σ (tau (prs f g k)) (f j) z → ∃ i, j ≤ i ∧ i < k ∧ (z = f i ∨ z = g i)
theorem mn_con {f g : Nat → Nat} {k : Nat} {σ : Nat → Nat} (hi : Inv2 σ) (h : OK σ (prs f g (k + 1))) {j : Nat} (hj : j < k) : Mn f g (k + 1) σ j ↔ Mn f g k (con (f k) (g k) σ) j := by
  have h' := h
  obtain ⟨h0, h1, h2, h3, h4, h5⟩ := h'
  have fx : f j ≠ f k := fun e => h3 ((pts_prs _ _ _ _).2 ⟨j, hj, .inl e.symm⟩)
  have fy : f j ≠ g k := fun e => h4 ((pts_prs _ _ _ _).2 ⟨j, hj, .inl e.symm⟩)
  constructor
  · intro m z hz
    obtain ⟨zx, zy, hz⟩ := conn_con1 hi h fx fy hz
    obtain ⟨i, a, b, c⟩ := m z hz
    exact ⟨i, a, by grind, c⟩
  · intro m z hz
    by_cases e : z = f k ∨ z = g k
    · exact ⟨k, by omega, by omega, e⟩
    · obtain ⟨i, a, b, c⟩ := m z ((conn_con2 hi h fx fy hz).1 (fun q => e (.inl q)) (fun q => e (.inr q)))
      exact ⟨i, a, by omega, c⟩
theorem mn_self {f g : Nat → Nat} {k : Nat} {σ : Nat → Nat} (hi : Inv2 σ) (h : OK σ (prs f g (k + 1))) : Mn f g (k + 1) σ k ↔ σ (f k) = g k := by
  obtain ⟨h0, h1, h2, h3, h4, h5⟩ := h
  constructor
  · intro m
    obtain ⟨i, a, b, c⟩ := m _ (.s _ .refl)
    have : i = k := by omega
    subst this
    rcases c with c | c
    · exact absurd c h1
    · exact c
  · intro e z hz
    have e2 : σ (g k) = f k := by rw [← e, hi]
    refine ⟨k, by omega, by omega, ?_⟩
    induction hz with
    | refl => exact .inl rfl
    | s v _ ih => rcases ih with rfl | rfl
                  · exact .inr e
                  · exact .inl e2
    | t v _ ih => rcases ih with rfl | rfl
                  · exact .inr (tau_fst _ _ _)
                  · exact .inl (tau_snd _ h0)
theorem glue_count (f g : Nat → Nat) (k : Nat) : ∀ σ : Nat → Nat, Inv2 σ → OK σ (prs f g k) → (glue (prs f g k) σ).2 = cntP (Mn f g k σ) k := by
  induction k with
  | zero => intro σ _ _; rfl
  | succ k ih =>
    intro σ hi h
    have h' := h
    obtain ⟨h0, h1, h2, h3, h4, h5⟩ := h'
    have e := ih _ (con_inv hi h1 h2 h0) (h5.con hi h0 h3 h4)
    simp only [prs, glue, cntP]
    rw [e, cntP_congr k (fun i hik => (mn_con hi h hik).symm)]
    congr 1
    unfold lp
    by_cases c : σ (f k) = g k
    · rw [if_pos c, if_pos ((mn_self hi h).2 c)]
    · rw [if_neg c, if_neg (fun d => c ((mn_self hi h).1 d))]
/-! ### the order of the pairs -/
theorem glue_perm {l l' : List (Nat × Nat)} (hp : l.Perm l') : ∀ σ : Nat → Nat, Inv2 σ → OK σ l → glue l σ = glue l' σ ∧ OK σ l' := by
  have pp : ∀ {a b : List (Nat × Nat)}, a.Perm b → ∀ z, pts a z ↔ pts b z := fun h z => by
    unfold pts
    constructor
    · rintro ⟨p, m, e⟩; exact ⟨p, h.mem_iff.1 m, e⟩
    · rintro ⟨p, m, e⟩; exact ⟨p, h.mem_iff.2 m, e⟩
  induction hp with
  | nil => intro σ _ h; exact ⟨rfl, h⟩
  | cons p hp ih =>
    intro σ hi h
    obtain ⟨x, y⟩ := p
    obtain ⟨h0, h1, h2, h3, h4, h5⟩ := h
    obtain ⟨e, _⟩ := ih _ (con_inv hi h1 h2 h0) (h5.con hi h0 h3 h4)
    obtain ⟨_, k⟩ := ih σ hi h5
    refine ⟨by simp only [glue]; rw [e], h0, h1, h2, fun d => h3 ((pp hp _).2 d), fun d => h4 ((pp hp _).2 d), k⟩
  | swap p q l =>
    intro σ hi h
    obtain ⟨u, v⟩ := p
    obtain ⟨x, y⟩ := q
    obtain ⟨h0, h1, h2, h3, h4, k0, k1, k2, k3, k4, k5⟩ := h
    simp only [pts_cons, not_or] at h3 h4
    have e1 := lp_comm hi h1 h2 k1 k2 h0 k0 h3.1 h3.2.1 h4.1 h4.2.1
    have e2 : con x y (con u v σ) = con u v (con x y σ) := funext fun z => (con_comm hi h1 h2 k1 k2 h0 k0 h3.1 h3.2.1 h4.1 h4.2.1 z).symm
    refine ⟨?_, k0, k1, k2, ?_, ?_, h0, h1, h2, h3.2.2, h4.2.2, k5⟩
    · simp only [glue]
      rw [e2]
      congr 1
      omega
    · simp only [pts_cons, not_or]; exact ⟨Ne.symm h3.1, Ne.symm h4.1, k3⟩
    · simp only [pts_cons, not_or]; exact ⟨Ne.symm h3.2.1, Ne.symm h4.2.1, k4⟩
  | trans _ _ ih1 ih2 =>
    intro σ hi h
    obtain ⟨e1, k1⟩ := ih1 σ hi h
    obtain ⟨e2, k2⟩ := ih2 σ hi k1
    exact ⟨e1.trans e2, k2⟩
theorem glue_app (l l' : List (Nat × Nat)) : ∀ σ : Nat → Nat, glue (l ++ l') σ = ((glue l' (glue l σ).1).1, (glue l' (glue l σ).1).2 + (glue l σ).2) := by
  induction l with
  | nil => intro σ; simp [glue]
  | cons p l ih =>
    obtain ⟨x, y⟩ := p
    intro σ
    simp only [List.cons_append, glue, ih]
    congr 1
    omega
theorem glue_inv (l : List (Nat × Nat)) : ∀ σ : Nat → Nat, Inv2 σ → OK σ l → Inv2 (glue l σ).1 := by
  induction l with
  | nil => intro σ h _; exact h
  | cons p l ih =>
    obtain ⟨x, y⟩ := p
    intro σ hi h
    obtain ⟨h0, h1, h2, h3, h4, h5⟩ := h
    exact ih _ (con_inv hi h1 h2 h0) (h5.con hi h0 h3 h4)
theorem glue_alive (l : List (Nat × Nat)) : ∀ σ : Nat → Nat, Inv2 σ → OK σ l → ∀ z, ¬ pts l z → σ z ≠ z → (glue l σ).1 z ≠ z := by
  induction l with
  | nil => intro σ _ _ z _ h; exact h
  | cons p l ih =>
    obtain ⟨x, y⟩ := p
    intro σ hi h z hz hs
    obtain ⟨h0, h1, h2, h3, h4, h5⟩ := h
    simp only [pts_cons, not_or] at hz
    exact ih _ (con_inv hi h1 h2 h0) (h5.con hi h0 h3 h4) z hz.2.2 (con_alive hi h0 hz.1 hz.2.1 hs)
theorem con_dead2 {σ : Nat → Nat} {x y z : Nat} (hz : z = x ∨ z = y) : con x y σ z = z := by unfold con; rw [if_pos hz]
theorem glue_dead (l : List (Nat × Nat)) : ∀ σ : Nat → Nat, Inv2 σ → OK σ l → ∀ z, pts l z ∨ σ z = z → (glue l σ).1 z = z := by
  induction l with
  | nil => intro σ _ _ z h; exact h.resolve_left (pts_nil z)
  | cons p l ih =>
    obtain ⟨x, y⟩ := p
    intro σ hi h z hz
    obtain ⟨h0, h1, h2, h3, h4, h5⟩ := h
    refine ih _ (con_inv hi h1 h2 h0) (h5.con hi h0 h3 h4) z ?_
    rcases hz with hz | hz
    · rcases (pts_cons _ _ _ _).1 hz with e | e | e
      · exact .inr (con_dead2 (.inl e))
      · exact .inr (con_dead2 (.inr e))
      · exact .inl e
    · exact .inr (con_dead hi h1 h2 hz)
/-! ### other names -/
/-- σ does with the new names what a does with the old ones below N -/
def Emb (N : Nat) (F a σ : Nat → Nat) : Prop := ∀ z, z < N → a z < N ∧ σ (F z) = F (a z)
theorem con_emb {N : Nat} {F a σ : Nat → Nat} (hF : ∀ u v, u < N → v < N → F u = F v → u = v) (h : Emb N F a σ) {x y : Nat} (hx : x < N) (hy : y < N) : Emb N F (con x y a) (con (F x) (F y) σ) ∧ lp (F x) (F y) σ = lp x y a := by
  have i : ∀ u v, u < N → v < N → (F u = F v ↔ u = v) := fun u v hu hv => ⟨hF u v hu hv, fun e => by rw [e]⟩
  have hxx := h x hx
  have hyy := h y hy
  constructor
  · intro z hz
    have hzz := h z hz
    unfold con
    rw [hxx.2, hyy.2, hzz.2]
    simp only [i z x hz hx, i z y hz hy, i z (a x) hz hxx.1, i z (a y) hz hyy.1]
    grind
  · unfold lp
    rw [hxx.2]
    simp only [i _ y hxx.1 hy]
theorem con_off {σ : Nat → Nat} {x y z : Nat} (h1 : z ≠ x) (h2 : z ≠ y) (h3 : z ≠ σ x) (h4 : z ≠ σ y) : con x y σ z = σ z := by unfold con; grind
theorem glue_emb {N : Nat} {F : Nat → Nat} (hF : ∀ u v, u < N → v < N → F u = F v → u = v) (l : List (Nat × Nat)) : ∀ {a σ : Nat → Nat}, Emb N F a σ → (∀ p ∈ l, p.1 < N ∧ p.2 < N) → Emb N F (glue l a).1 (glue (l.map (fun p => (F p.1, F p.2))) σ).1 ∧ (glue (l.map (fun p => (F p.1, F p.2))) σ).2 = (glue l a).2 := by
  induction l with
  | nil => intro a σ h _; exact ⟨h, rfl⟩
  | cons p l ih =>
    obtain ⟨x, y⟩ := p
    intro a σ h hl
    have hxy := hl (x, y) List.mem_cons_self
    obtain ⟨h1, h2⟩ := con_emb hF h hxy.1 hxy.2
    obtain ⟨h3, h4⟩ := ih h1 (fun p hp => hl p (List.mem_cons_of_mem _ hp))
    simp only [List.map_cons, glue]
    exact ⟨h3, by rw [h4, h2]⟩
/-- what lies apart stays as it is -/
theorem glue_off (D : Nat → Prop) (l : List (Nat × Nat)) : ∀ {σ : Nat → Nat}, (∀ z, D z → D (σ z)) → Inv2 σ → OK σ l → (∀ p ∈ l, ¬ D p.1 ∧ ¬ D p.2) → ∀ z, D z → (glue l σ).1 z = σ z := by
  induction l with
  | nil => intro σ _ _ _ _ z _; rfl
  | cons p l ih =>
    obtain ⟨x, y⟩ := p
    intro σ hD hi h hl z hz
    obtain ⟨h0, h1, h2, h3, h4, h5⟩ := h
    have hxy := hl (x, y) List.mem_cons_self
    have e : ∀ z, D z → con x y σ z = σ z := fun z hz => by
      refine con_off (fun e => hxy.1 (e ▸ hz)) (fun e => hxy.2 (e ▸ hz)) (fun e => hxy.1 ?_) (fun e => hxy.2 ?_)
      · have := hD z hz; rw [e, hi] at this; exact this
      · have := hD z hz; rw [e, hi] at this; exact this
    simp only [glue]
    rw [ih (fun z hz => by rw [e z hz]; exact hD z hz) (con_inv hi h1 h2 h0) (h5.con hi h0 h3 h4) (fun p hp => hl p (List.mem_cons_of_mem _ hp)) z hz, e z hz]
theorem con_swap {σ : Nat → Nat} (x y : Nat) (hi : Inv2 σ) (xy : x ≠ y) : con x y σ = con y x σ ∧ lp x y σ = lp y x σ := by
  have h1 := hi x
  have h2 := hi y
  have hj : ∀ a b, σ a = σ b → a = b := fun a b => hi.inj
  constructor
  · funext z; unfold con; grind
  · unfold lp; grind
/-! ### without crossings -/
/-! ### the pigeon-hole -/
theorem pigeon : ∀ (n : Nat) (f : Nat → Nat), (∀ i, i ≤ n → f i < n) → ∃ i j, i < j ∧ j ≤ n ∧ f i = f j := by
  intro n
  induction n with
  | zero => intro f h; have := h 0 (Nat.le_refl _); omega
  | succ n ih =>
    intro f h
    by_cases c : ∃ i, i ≤ n ∧ f i = f (n + 1)
    · obtain ⟨i, a, b⟩ := c; exact ⟨i, n + 1, by omega, Nat.le_refl _, b⟩
    · obtain ⟨i, j, a, b, e⟩ := ih (fun i => if f i = n then f (n + 1) else f i) (fun i hi => by
        have h1 := h i (by omega)
        have h2 := h (n + 1) (Nat.le_refl _)
        show (if f i = n then f (n + 1) else f i) < n
        by_cases d : f i = n
        · rw [if_pos d]
          have : f (n + 1) ≠ n := fun e => c ⟨i, hi, by rw [d, e]⟩
          omega
        · rw [if_neg d]; omega)
      refine ⟨i, j, a, by omega, ?_⟩
      have e : (if f i = n then f (n + 1) else f i) = if f j = n then f (n + 1) else f j := e
      by_cases d1 : f i = n <;> by_cases d2 : f j = n
      · rw [d1, d2]
      · rw [if_pos d1, if_neg d2] at e; exact absurd ⟨j, b, e.symm⟩ c
      · rw [if_neg d1, if_pos d2] at e; exact absurd ⟨i, by omega, e⟩ c
      · rw [if_neg d1, if_neg d2] at e; exact e
/-- the same number of times -/
def itr (f : Nat → Nat) : Nat → Nat → Nat
  | 0, z => z
  | k + 1, z => itr f k (f z)
theorem itr_succ (f : Nat → Nat) (k : Nat) : ∀ z, itr f (k + 1) z = f (itr f k z) := by
  induction k with
  | zero => intro z; rfl
  | succ k ih => intro z; rw [itr, ih (f z)]; rfl
/-- a walk that begins outside of a set of N points, by steps that lead no two points to one, does not stay in it -/
theorem leaves {f : Nat → Nat} (hf : ∀ a b, f a = f b → a = b) (S : Nat → Prop) (c : Nat → Nat) (N : Nat) (hc : ∀ z, S z → c z < N) (hci : ∀ u v, S u → S v → c u = c v → u = v) (p : Nat) (hp : ¬ S p) : ∃ k, k ≤ N ∧ ¬ S (itr f (k + 1) p) ∧ ∀ i, i < k → S (itr f (i + 1) p) := by
  have h : ∃ k, k ≤ N ∧ ¬ S (itr f (k + 1) p) := by
    refine Classical.byContradiction fun hn => ?_
    have hS : ∀ i, i ≤ N → S (itr f (i + 1) p) := fun i hi => Classical.byContradiction fun h => hn ⟨i, hi, h⟩
    obtain ⟨i, j, a, b, e⟩ := pigeon N (fun i => c (itr f (i + 1) p)) (fun i hi => hc _ (hS i hi))
    have e := hci _ _ (hS i (by omega)) (hS j b) e
    have back : ∀ k, itr f k p = itr f (j - i + k) p → p = itr f (j - i) p := by
      intro k
      induction k with
      | zero => intro h; exact h
      | succ k ih => intro h; rw [itr_succ, show j - i + (k + 1) = (j - i + k) + 1 by omega, itr_succ] at h; exact ih (hf _ _ h)
    have e2 := back (i + 1) (by rw [show j - i + (i + 1) = j + 1 by omega]; exact e)
    refine hp ?_
    rw [e2]
    have := hS (j - i - 1) (by omega)
    rwa [show j - i - 1 + 1 = j - i by omega] at this
  obtain ⟨k, h1, h2⟩ := h
  clear hc hci hf
  induction k using Nat.strongRecOn with
  | ind k ih =>
    by_cases c2 : ∃ i, i < k ∧ ¬ S (itr f (i + 1) p)
    · obtain ⟨i, a, b⟩ := c2; exact ih i a (by omega) b
    · exact ⟨k, h1, h2, fun i hi => Classical.byContradiction fun h => c2 ⟨i, hi, h⟩⟩
end Go.Proofs.Ytjfkompfkgjdaaa.G
end
section
/- Orbits of two pairings, and the points on ways: plain. -/
namespace Go.Proofs.Ytjfkompfkgjdaaa.G
/-! ### round and round -/
/-- A pairs the indices of U -/
structure Pairs (U : Nat → Prop) (A : Nat → Nat) : Prop where
  mem : ∀ m, U m → U (A m)
  ne : ∀ m, U m → A m ≠ m
  inv : ∀ m, U m → A (A m) = m
structure Rd (U : Nat → Prop) (A B : Nat → Nat) (T M : Nat → Prop) (i c : Nat) : Prop where
  ui : U i
  uc : U c
  sub : ∀ m, U m → T m → M m
  cA : ∀ m, U m → M m → M (A m)
  cB : ∀ m, U m → M m → m ≠ i → m ≠ B c → M (B m) ∧ B m ≠ i ∧ B m ≠ B c
  st : (c = i ∧ ¬ M i ∧ ¬ M (B i)) ∨ (M i ∧ M (B c) ∧ B c ≠ i)
  low : ∀ m, U m → M m → T m ∨ Conn A B i m
  cc : Conn A B i c
theorem Rd.start {U : Nat → Prop} {A B : Nat → Nat} {T : Nat → Prop} (hA : Pairs U A) (hB : Pairs U B) (tA : ∀ m, U m → T m → T (A m)) (tB : ∀ m, U m → T m → T (B m)) {i : Nat} (ui : U i) (hi : ¬ T i) : Rd U A B T T i i := by
  refine ⟨ui, ui, fun _ _ h => h, tA, fun m um h mi mb => ⟨tB m um h, fun e => ?_, fun e => ?_⟩, .inl ⟨rfl, hi, fun e => hi (by have := tB _ (hB.mem i ui) e; rwa [hB.inv i ui] at this)⟩, fun _ _ h => .inl h, .refl⟩
  · exact hi (e ▸ tB m um h)
  · have h1 := hB.inv m um
    rw [e, hB.inv i ui] at h1
    exact mi h1.symm
theorem Rd.step {U : Nat → Prop} {A B : Nat → Nat} {T M M' : Nat → Prop} {i c : Nat} (hA : Pairs U A) (hB : Pairs U B) (h : Rd U A B T M i c) (hc : ¬ M c) (hM : ∀ m, U m → (M' m ↔ M m ∨ m = c ∨ m = A c)) : Rd U A B T M' i (B (A c)) := by
  have uAc := hA.mem c h.uc
  have uBc := hB.mem c h.uc
  have a1 : ¬ M (A c) := fun e => hc (by have := h.cA _ uAc e; rwa [hA.inv c h.uc] at this)
  have a2 := hA.inv c h.uc
  have a3 := hA.ne c h.uc
  have b1 := hB.inv c h.uc
  have b2 := hB.inv (A c) uAc
  have nAi : A c ≠ i := by
    rcases h.st with ⟨e, _⟩ | ⟨e, _, _⟩
    · exact fun f => a3 (f.trans e.symm)
    · exact fun f => a1 (f ▸ e)
  refine ⟨h.ui, hB.mem _ uAc, fun m um t => (hM m um).2 (.inl (h.sub m um t)), fun m um hm => ?_, fun m um hm mi mb => ?_, .inr ⟨?_, ?_, ?_⟩, fun m um hm => ?_, ?_⟩
  · refine (hM _ (hA.mem m um)).2 ?_
    rcases (hM m um).1 hm with e | e | e
    · exact .inl (h.cA m um e)
    · exact .inr (.inr (by rw [e]))
    · exact .inr (.inl (by rw [e, a2]))
  · rw [b2] at mb
    have bm := hB.mem m um
    rcases (hM m um).1 hm with e | e | e
    · by_cases d : m = B c
      · subst d
        rw [b1]
        rcases h.st with ⟨f, g⟩ | ⟨f, g, k⟩
        · exact absurd (f ▸ e) g.2
        · exact ⟨(hM c h.uc).2 (.inr (.inl rfl)), fun q => hc (q ▸ f), fun q => a3 (by rw [b2] at q; exact q.symm)⟩
      · obtain ⟨f, g, k⟩ := h.cB m um e mi d
        exact ⟨(hM _ bm).2 (.inl f), g, fun q => a1 (by rw [b2] at q; exact q ▸ f)⟩
    · subst e
      rcases h.st with ⟨f, _⟩ | ⟨f, g, k⟩
      · exact absurd f mi
      · exact ⟨(hM _ bm).2 (.inl g), k, fun q => a1 (by rw [b2] at q; exact q ▸ g)⟩
    · exact absurd e mb
  · rcases h.st with ⟨e, _⟩ | ⟨e, _, _⟩
    · exact (hM i h.ui).2 (.inr (.inl e.symm))
    · exact (hM i h.ui).2 (.inl e)
  · rw [b2]; exact (hM _ uAc).2 (.inr (.inr rfl))
  · rw [b2]; exact nAi
  · rcases (hM m um).1 hm with e | e | e
    · exact h.low m um e
    · subst e; exact .inr h.cc
    · subst e; exact .inr (.s _ h.cc)
  · exact .t _ (.s _ h.cc)
theorem Rd.fin {U : Nat → Prop} {A B : Nat → Nat} {T M : Nat → Prop} {i c : Nat} (hA : Pairs U A) (hB : Pairs U B) (h : Rd U A B T M i c) (hc : M c) : ∀ m, U m → (M m ↔ T m ∨ Conn A B i m) := by
  have b1 := hB.inv c h.uc
  have st := h.st
  have ci : c = i := by
    refine Classical.byContradiction fun n => ?_
    rcases st with ⟨e, _⟩ | ⟨e, g, k⟩
    · exact n e
    · exact (h.cB c h.uc hc n (Ne.symm (hB.ne c h.uc))).2.2 rfl
  have hi : M i ∧ M (B c) := by
    rcases st with ⟨e, f⟩ | ⟨e, g, k⟩
    · exact absurd (ci ▸ hc) f.1
    · exact ⟨e, g⟩
  have cB : ∀ m, U m → M m → M (B m) := by
    intro m um hm
    by_cases e : m = i
    · rw [e, ← ci]; exact hi.2
    · by_cases f : m = B c
      · rw [f, b1]; exact hc
      · exact (h.cB m um hm e f).1
  have all : ∀ m, Conn A B i m → U m ∧ M m := by
    intro m hm
    induction hm with
    | refl => exact ⟨h.ui, hi.1⟩
    | s y _ ih => exact ⟨hA.mem y ih.1, h.cA y ih.1 ih.2⟩
    | t y _ ih => exact ⟨hB.mem y ih.1, cB y ih.1 ih.2⟩
  intro m um
  exact ⟨h.low m um, fun e => e.elim (h.sub m um) (fun e => (all m e).2)⟩
/-- the index is the first of its curve -/
def Fst (U : Nat → Prop) (A B : Nat → Nat) (i : Nat) : Prop := U i ∧ ∀ j, j < i → U j → ¬ Conn A B j i
/-- what is met before index i is looked at -/
def MetI (U : Nat → Prop) (A B : Nat → Nat) (i : Nat) (T : Nat → Prop) : Prop := ∀ m, U m → (T m ↔ ∃ j, j < i ∧ U j ∧ Conn A B j m)
theorem MetI.closed {U : Nat → Prop} {A B : Nat → Nat} {i : Nat} {T : Nat → Prop} (hA : Pairs U A) (hB : Pairs U B) (h : MetI U A B i T) : (∀ m, U m → T m → T (A m)) ∧ (∀ m, U m → T m → T (B m)) := by
  refine ⟨fun m um t => ?_, fun m um t => ?_⟩
  · obtain ⟨j, a, b, c⟩ := (h m um).1 t; exact (h _ (hA.mem m um)).2 ⟨j, a, b, .s _ c⟩
  · obtain ⟨j, a, b, c⟩ := (h m um).1 t; exact (h _ (hB.mem m um)).2 ⟨j, a, b, .t _ c⟩
theorem MetI.skip {U : Nat → Prop} {A B : Nat → Nat} {i : Nat} {T : Nat → Prop} (h : MetI U A B i T) (hi : U i → T i) : MetI U A B (i + 1) T ∧ ¬ Fst U A B i := by
  constructor
  · intro m um
    refine ⟨fun t => ?_, fun ⟨j, a, b, c⟩ => ?_⟩
    · obtain ⟨j, a, b, c⟩ := (h m um).1 t; exact ⟨j, by omega, b, c⟩
    · by_cases e : j = i
      · subst e
        obtain ⟨j', a', b', c'⟩ := (h j b).1 (hi b)
        exact (h m um).2 ⟨j', a', b', c'.trans c⟩
      · exact (h m um).2 ⟨j, by omega, b, c⟩
  · intro ⟨ui, hf⟩
    obtain ⟨j, a, b, c⟩ := (h i ui).1 (hi ui)
    exact hf j a b c
theorem MetI.round {U : Nat → Prop} {A B : Nat → Nat} {i : Nat} {T T' : Nat → Prop} (h : MetI U A B i T) (ui : U i) (hi : ¬ T i) (hT : ∀ m, U m → (T' m ↔ T m ∨ Conn A B i m)) : MetI U A B (i + 1) T' ∧ Fst U A B i := by
  constructor
  · intro m um
    rw [hT m um]
    refine ⟨fun t => ?_, fun ⟨j, a, b, c⟩ => ?_⟩
    · rcases t with t | t
      · obtain ⟨j, a, b, c⟩ := (h m um).1 t; exact ⟨j, by omega, b, c⟩
      · exact ⟨i, by omega, ui, t⟩
    · by_cases e : j = i
      · exact .inr (e ▸ c)
      · exact .inl ((h m um).2 ⟨j, by omega, b, c⟩)
  · exact ⟨ui, fun j a b c => hi ((h i ui).2 ⟨j, a, b, c⟩)⟩
theorem Conn.swap {σ τ : Nat → Nat} {x y : Nat} (h : Conn σ τ x y) : Conn τ σ x y := by
  induction h with
  | refl => exact .refl
  | s y _ ih => exact .t _ ih
  | t y _ ih => exact .s _ ih
theorem fst_swap {U : Nat → Prop} {A B : Nat → Nat} {i : Nat} : Fst U A B i ↔ Fst U B A i := ⟨fun h => ⟨h.1, fun j a b c => h.2 j a b c.swap⟩, fun h => ⟨h.1, fun j a b c => h.2 j a b c.swap⟩⟩
/-! ### along the ways -/
structure W0 (σ τ : Nat → Nat) (mid P M : Nat → Prop) : Prop where
  cl : ∀ u, ((mid u ∧ M u) ∨ (¬ mid u ∧ P u)) → ¬ mid (σ u) ∨ M (σ u)
  ct : ∀ u, mid u → M u → M (τ u)
  low : ∀ u, mid u → M u → ∃ o, ¬ mid o ∧ Conn σ τ o u
structure W1 (σ τ : Nat → Nat) (mid P : Nat → Prop) (p z : Nat) (M : Nat → Prop) : Prop where
  pin : ¬ mid p
  zin : z = p ∨ (mid z ∧ M z)
  cl : ∀ u, ((mid u ∧ M u) ∨ (¬ mid u ∧ (P u ∨ u = p))) → u ≠ z → ¬ mid (σ u) ∨ M (σ u)
  ct : ∀ u, mid u → M u → M (τ u)
  low : ∀ u, mid u → M u → ∃ o, ¬ mid o ∧ Conn σ τ o u
  cz : Conn σ τ p z
theorem W0.start {σ τ : Nat → Nat} {mid P M : Nat → Prop} (h : W0 σ τ mid P M) {p : Nat} (hp : ¬ mid p) : W1 σ τ mid P p p M := by
  refine ⟨hp, .inl rfl, fun u hu ne => ?_, h.ct, h.low, .refl⟩
  rcases hu with hu | ⟨a, b⟩
  · exact h.cl u (.inl hu)
  · exact h.cl u (.inr ⟨a, b.resolve_right ne⟩)
theorem W1.step {σ τ : Nat → Nat} {mid P M M' : Nat → Prop} {p z : Nat} (hs : Inv2 σ) (ht : Inv2 τ) (tm : ∀ u, mid u → mid (τ u)) (h : W1 σ τ mid P p z M) (hz : mid (σ z)) (hM : ∀ u, mid u → (M' u ↔ M u ∨ u = σ z ∨ u = τ (σ z))) : W1 σ τ mid P p (τ (σ z)) M' := by
  have up : ∀ u, mid u → M u → M' u := fun u a b => (hM u a).2 (.inl b)
  refine ⟨h.pin, .inr ⟨tm _ hz, (hM _ (tm _ hz)).2 (.inr (.inr rfl))⟩, fun u hu ne => ?_, fun u um hu => ?_, fun u um hu => ?_, .t _ (.s _ h.cz)⟩
  · have old : ((mid u ∧ M u) ∨ (¬ mid u ∧ (P u ∨ u = p))) → ¬ mid (σ u) ∨ M' (σ u) := by
      intro q
      by_cases e : u = z
      · rw [e]; exact .inr ((hM _ hz).2 (.inr (.inl rfl)))
      · by_cases m : mid (σ u)
        · exact .inr (up _ m ((h.cl u q e).resolve_left (fun f => f m)))
        · exact .inl m
    rcases hu with ⟨um, hu⟩ | hu
    · rcases (hM u um).1 hu with e | e | e
      · exact old (.inl ⟨um, e⟩)
      · rw [e, hs z]
        rcases h.zin with f | ⟨f, g⟩
        · exact .inl (f ▸ h.pin)
        · exact .inr (up _ f g)
      · exact absurd e ne
    · exact old (.inr hu)
  · refine (hM _ (tm u um)).2 ?_
    rcases (hM u um).1 hu with e | e | e
    · exact .inl (h.ct u um e)
    · exact .inr (.inr (by rw [e]))
    · exact .inr (.inl (by rw [e, ht]))
  · rcases (hM u um).1 hu with e | e | e
    · exact h.low u um e
    · exact ⟨p, h.pin, e ▸ .s _ h.cz⟩
    · exact ⟨p, h.pin, e ▸ .t _ (.s _ h.cz)⟩
theorem W1.fin {σ τ : Nat → Nat} {mid P M : Nat → Prop} {p z : Nat} (h : W1 σ τ mid P p z M) (hz : ¬ mid (σ z)) : W0 σ τ mid (fun u => P u ∨ u = p) M := by
  refine ⟨fun u hu => ?_, h.ct, h.low⟩
  by_cases e : u = z
  · rw [e]; exact .inl hz
  · exact h.cl u hu e
theorem W0.all {σ τ : Nat → Nat} {mid P M : Nat → Prop} (h : W0 σ τ mid P M) (tout : ∀ u, ¬ mid u → τ u = u) (hP : ∀ u, ¬ mid u → P u ∨ σ u = u) : ∀ u, mid u → (M u ↔ ∃ o, ¬ mid o ∧ Conn σ τ o u) := by
  intro u um
  refine ⟨h.low u um, fun ⟨o, ho, hc⟩ => ?_⟩
  have all : ∀ v, Conn σ τ o v → ¬ mid v ∨ M v := by
    intro v hv
    induction hv with
    | refl => exact .inl ho
    | s y _ ih =>
      by_cases my : mid y
      · exact h.cl y (.inl ⟨my, ih.resolve_left (fun e => e my)⟩)
      · rcases hP y my with a | a
        · exact h.cl y (.inr ⟨my, a⟩)
        · rw [a]; exact .inl my
    | t y _ ih =>
      by_cases my : mid y
      · exact .inr (h.ct y my (ih.resolve_left (fun e => e my)))
      · rw [tout y my]; exact .inl my
  exact (all u hc).resolve_left (fun e => e um)
/-! ### indices and points -/
theorem tau_prs {f g : Nat → Nat} {σ : Nat → Nat} (k : Nat) : OK σ (prs f g k) → ∀ j, j < k → tau (prs f g k) (f j) = g j ∧ tau (prs f g k) (g j) = f j := by
  induction k with
  | zero => intro _ j hj; omega
  | succ k ih =>
    intro h j hj
    have h' := h
    obtain ⟨h0, h1, h2, h3, h4, h5⟩ := h'
    by_cases e : j = k
    · subst e; exact ⟨tau_fst _ _ _, tau_snd _ h0⟩
    · have hjk : j < k := by omega
      obtain ⟨a, b⟩ := ih h5 j hjk
      have p1 : pts (prs f g k) (f j) := (pts_prs _ _ _ _).2 ⟨j, hjk, .inl rfl⟩
      have p2 : pts (prs f g k) (g j) := (pts_prs _ _ _ _).2 ⟨j, hjk, .inr rfl⟩
      have q1 : f j ≠ f k := fun e => h3 (e ▸ p1)
      have q2 : f j ≠ g k := fun e => h4 (e ▸ p1)
      have q3 : g j ≠ f k := fun e => h3 (e ▸ p2)
      have q4 : g j ≠ g k := fun e => h4 (e ▸ p2)
      simp only [prs, tau]
      rw [if_neg q1, if_neg q2, if_neg q3, if_neg q4]
      exact ⟨a, b⟩
/-- the indices whose curves stay within the pairs, and the steps from one to another -/
structure Ixs (f g : Nat → Nat) (k : Nat) (σ : Nat → Nat) (U : Nat → Prop) (A B : Nat → Nat) : Prop where
  lt : ∀ m, U m → m < k
  u : ∀ m, m < k → (U m ↔ ∀ z, Conn σ (tau (prs f g k)) (f m) z → pts (prs f g k) z)
  sA : ∀ m, U m → U (A m) ∧ σ (f m) = f (A m)
  sB : ∀ m, U m → U (B m) ∧ σ (g m) = g (B m)
theorem Ixs.conn {f g : Nat → Nat} {k : Nat} {σ : Nat → Nat} {U : Nat → Prop} {A B : Nat → Nat} (h : Ixs f g k σ U A B) (ho : OK σ (prs f g k)) {j : Nat} (uj : U j) {z : Nat} (hz : Conn σ (tau (prs f g k)) (f j) z) : ∃ i, U i ∧ Conn A B j i ∧ (z = f i ∨ z = g i) := by
  induction hz with
  | refl => exact ⟨j, uj, .refl, .inl rfl⟩
  | s y _ ih =>
    obtain ⟨i, a, b, c⟩ := ih
    rcases c with c | c
    · have := h.sA i a; exact ⟨A i, this.1, .s _ b, .inl (by rw [c]; exact this.2)⟩
    · have := h.sB i a; exact ⟨B i, this.1, .t _ b, .inr (by rw [c]; exact this.2)⟩
  | t y _ ih =>
    obtain ⟨i, a, b, c⟩ := ih
    have := tau_prs k ho i (h.lt i a)
    rcases c with c | c
    · exact ⟨i, a, b, .inr (by rw [c]; exact this.1)⟩
    · exact ⟨i, a, b, .inl (by rw [c]; exact this.2)⟩
theorem Ixs.back {f g : Nat → Nat} {k : Nat} {σ : Nat → Nat} {U : Nat → Prop} {A B : Nat → Nat} (h : Ixs f g k σ U A B) (ho : OK σ (prs f g k)) {j i : Nat} (uj : U j) (hz : Conn A B j i) : U i ∧ Conn σ (tau (prs f g k)) (f j) (f i) := by
  induction hz with
  | refl => exact ⟨uj, .refl⟩
  | s y _ ih =>
    have := h.sA y ih.1
    exact ⟨this.1, this.2 ▸ .s _ ih.2⟩
  | t y _ ih =>
    have e := h.sB y ih.1
    have t1 := tau_prs k ho y (h.lt y ih.1)
    have t2 := tau_prs k ho (B y) (h.lt _ e.1)
    refine ⟨e.1, ?_⟩
    have := Conn.t _ (Conn.s _ (Conn.t _ ih.2))
    rwa [t1.1, e.2, t2.2] at this
theorem prs_ne {f g : Nat → Nat} {σ : Nat → Nat} (k : Nat) : OK σ (prs f g k) → ∀ i j, i < k → j < k → (f i = f j → i = j) ∧ f i ≠ g j ∧ (g i = g j → i = j) := by
  induction k with
  | zero => intro _ i j hi; omega
  | succ k ih =>
    intro h i j hi hj
    obtain ⟨h0, h1, h2, h3, h4, h5⟩ := h
    have p1 : ∀ i, i < k → f i ≠ f k ∧ g i ≠ f k ∧ f i ≠ g k ∧ g i ≠ g k := fun i hi => by
      have a : pts (prs f g k) (f i) := (pts_prs _ _ _ _).2 ⟨i, hi, .inl rfl⟩
      have b : pts (prs f g k) (g i) := (pts_prs _ _ _ _).2 ⟨i, hi, .inr rfl⟩
      exact ⟨fun e => h3 (e ▸ a), fun e => h3 (e ▸ b), fun e => h4 (e ▸ a), fun e => h4 (e ▸ b)⟩
    by_cases ei : i = k
    · by_cases ej : j = k
      · subst ei; subst ej; exact ⟨fun _ => rfl, h0, fun _ => rfl⟩
      · have := p1 j (by omega)
        subst ei
        exact ⟨fun e => absurd e.symm this.1, fun e => this.2.1 e.symm, fun e => absurd e.symm this.2.2.2⟩
    · have p := p1 i (by omega)
      by_cases ej : j = k
      · subst ej
        exact ⟨fun e => absurd e p.1, p.2.2.1, fun e => absurd e p.2.2.2⟩
      · exact ih h5 i j (by omega) (by omega)
theorem Ixs.symm {f g : Nat → Nat} {k : Nat} {σ : Nat → Nat} {U : Nat → Prop} {A B : Nat → Nat} (h : Ixs f g k σ U A B) (hi : Inv2 σ) (ho : OK σ (prs f g k)) {j i : Nat} (uj : U j) (hz : Conn A B j i) : Conn A B i j := by
  obtain ⟨ui, c⟩ := h.back ho uj hz
  obtain ⟨j', _, d, e⟩ := h.conn ho ui (c.symm hi (tau_inv ho))
  rename_i uj'
  have n := prs_ne k ho j j' (h.lt j uj) (h.lt j' uj')
  rcases e with e | e
  · rw [n.1 e]; exact d
  · exact absurd e n.2.1
theorem Ixs.mn {f g : Nat → Nat} {k : Nat} {σ : Nat → Nat} {U : Nat → Prop} {A B : Nat → Nat} (h : Ixs f g k σ U A B) (hi : Inv2 σ) (ho : OK σ (prs f g k)) {j : Nat} (hj : j < k) : Mn f g k σ j ↔ Fst U A B j := by
  constructor
  · intro m
    have uj : U j := (h.u j hj).2 (fun z hz => by obtain ⟨i, _, b, c⟩ := m z hz; exact (pts_prs _ _ _ _).2 ⟨i, b, c⟩)
    refine ⟨uj, fun i a b c => ?_⟩
    obtain ⟨_, c⟩ := h.back ho b c
    obtain ⟨i', d, e, f⟩ := m _ (c.symm hi (tau_inv ho))
    have n := prs_ne k ho i i' (by omega) e
    rcases f with f | f
    · have := n.1 f; omega
    · exact n.2.1 f
  · intro ⟨uj, hfst⟩ z hz
    obtain ⟨i, a, b, c⟩ := h.conn ho uj hz
    refine ⟨i, ?_, h.lt i a, c⟩
    refine Classical.byContradiction fun n => ?_
    exact hfst i (by omega) a (h.symm hi ho uj b)
end Go.Proofs.Ytjfkompfkgjdaaa.G
end
section
/- Two matchings, one on top of the other, glued along the middle: plain. -/
namespace Go.Proofs.Ytjfkompfkgjdaaa.G
/-! ### two matchings, one on top of the other -/
/-- a matching of 2 n points -/
def Mat (n : Nat) (a : Nat → Nat) : Prop := ∀ z, z < 2 * n → a z < 2 * n ∧ a z ≠ z ∧ a (a z) = z
def jn (n : Nat) (a b : Nat → Nat) (z : Nat) : Nat := if z < 2 * n then a z else if z < 4 * n then 2 * n + b (z - 2 * n) else z
def up (n m : Nat) : Nat := n + m
def dn (n m : Nat) : Nat := 2 * n + m
def mids (n : Nat) : List (Nat × Nat) := prs (up n) (dn n) n
theorem jn_lo {n : Nat} {a b : Nat → Nat} {z : Nat} (h : z < 2 * n) : jn n a b z = a z := by unfold jn; rw [if_pos h]
theorem jn_hi {n : Nat} {a b : Nat → Nat} {z : Nat} (h : z < 2 * n) : jn n a b (2 * n + z) = 2 * n + b z := by
  unfold jn; rw [if_neg (by omega), if_pos (by omega), Nat.add_sub_cancel_left]
theorem jn_off {n : Nat} {a b : Nat → Nat} {z : Nat} (h : 4 * n ≤ z) : jn n a b z = z := by unfold jn; rw [if_neg (by omega), if_neg (by omega)]
theorem jn_cases {n z : Nat} : z < 2 * n ∨ (∃ y, y < 2 * n ∧ z = 2 * n + y) ∨ 4 * n ≤ z := by
  by_cases c : z < 2 * n
  · exact .inl c
  · by_cases d : z < 4 * n
    · exact .inr (.inl ⟨z - 2 * n, by omega, by omega⟩)
    · exact .inr (.inr (by omega))
theorem jn_inv {n : Nat} {a b : Nat → Nat} (ha : Mat n a) (hb : Mat n b) : Inv2 (jn n a b) := by
  intro z
  rcases @jn_cases n z with h | ⟨y, h, rfl⟩ | h
  · rw [jn_lo h, jn_lo (ha z h).1, (ha z h).2.2]
  · rw [jn_hi h, jn_hi (hb y h).1, (hb y h).2.2]
  · rw [jn_off h, jn_off h]
theorem jn_alive {n : Nat} {a b : Nat → Nat} (ha : Mat n a) (hb : Mat n b) {z : Nat} : jn n a b z ≠ z ↔ z < 4 * n := by
  rcases @jn_cases n z with h | ⟨y, h, rfl⟩ | h
  · rw [jn_lo h]; exact ⟨fun _ => by omega, fun _ => (ha z h).2.1⟩
  · rw [jn_hi h]; exact ⟨fun _ => by omega, fun _ e => (hb y h).2.1 (by omega)⟩
  · rw [jn_off h]; exact ⟨fun e => absurd rfl e, fun e => by omega⟩
theorem jn_lt {n : Nat} {a b : Nat → Nat} (ha : Mat n a) (hb : Mat n b) {z : Nat} (h : z < 4 * n) : jn n a b z < 4 * n := by
  rcases @jn_cases n z with c | ⟨y, c, rfl⟩ | c
  · rw [jn_lo c]; have := (ha z c).1; omega
  · rw [jn_hi c]; have := (hb y c).1; omega
  · omega
theorem prs_ok {f g : Nat → Nat} {σ : Nat → Nat} (k : Nat) (hn : ∀ i j, i < k → j < k → (f i = f j → i = j) ∧ f i ≠ g j ∧ (g i = g j → i = j)) (ha : ∀ i, i < k → σ (f i) ≠ f i ∧ σ (g i) ≠ g i) : OK σ (prs f g k) := by
  induction k with
  | zero => trivial
  | succ k ih =>
    have h := ih (fun i j a b => hn i j (by omega) (by omega)) (fun i a => ha i (by omega))
    have hk := ha k (by omega)
    refine ⟨(hn k k (by omega) (by omega)).2.1, hk.1, hk.2, fun q => ?_, fun q => ?_, h⟩
    · obtain ⟨i, a, b⟩ := (pts_prs _ _ _ _).1 q
      rcases b with b | b
      · have := (hn k i (by omega) (by omega)).1 b; omega
      · exact (hn k i (by omega) (by omega)).2.1 b
    · obtain ⟨i, a, b⟩ := (pts_prs _ _ _ _).1 q
      rcases b with b | b
      · exact (hn i k (by omega) (by omega)).2.1 b.symm
      · have := (hn k i (by omega) (by omega)).2.2 b; omega
theorem mids_ok {n : Nat} {a b : Nat → Nat} (ha : Mat n a) (hb : Mat n b) : OK (jn n a b) (mids n) := by
  refine prs_ok n (fun i j hi hj => ?_) (fun i hi => ⟨(jn_alive ha hb).2 ?_, (jn_alive ha hb).2 ?_⟩) <;> simp only [up, dn] <;> omega
theorem mids_pts {n z : Nat} : pts (mids n) z ↔ n ≤ z ∧ z < 3 * n := by
  unfold mids
  rw [pts_prs]
  constructor
  · rintro ⟨i, h, e⟩; simp only [up, dn] at e; omega
  · intro h
    by_cases c : z < 2 * n
    · exact ⟨z - n, by omega, .inl (by simp only [up]; omega)⟩
    · exact ⟨z - 2 * n, by omega, .inr (by simp only [dn]; omega)⟩
/-- the outer points -/
def emb (n p : Nat) : Nat := if p < n then p else p + 2 * n
def une (n q : Nat) : Nat := if q < n then q else q - 2 * n
theorem emb_out {n p : Nat} (h : p < 2 * n) : ¬ pts (mids n) (emb n p) ∧ emb n p < 4 * n := by
  rw [mids_pts]; unfold emb; split <;> omega
theorem une_emb {n p : Nat} : une n (emb n p) = p := by
  unfold une emb
  by_cases c : p < n
  · rw [if_pos c, if_pos c]
  · rw [if_neg c, if_neg (by omega)]; omega
theorem emb_une {n q : Nat} (h : ¬ pts (mids n) q) (h2 : q < 4 * n) : emb n (une n q) = q ∧ une n q < 2 * n := by
  rw [mids_pts] at h
  unfold une emb
  by_cases c : q < n
  · rw [if_pos c, if_pos c]; omega
  · rw [if_neg c, if_neg (by omega)]; omega
def prod (n : Nat) (a b : Nat → Nat) (p : Nat) : Nat := une n ((glue (mids n) (jn n a b)).1 (emb n p))
def lops (n : Nat) (a b : Nat → Nat) : Nat := (glue (mids n) (jn n a b)).2
theorem glue_out {n : Nat} {a b : Nat → Nat} (ha : Mat n a) (hb : Mat n b) {z : Nat} (h1 : ¬ pts (mids n) z) (h2 : z < 4 * n) : ¬ pts (mids n) ((glue (mids n) (jn n a b)).1 z) ∧ (glue (mids n) (jn n a b)).1 z < 4 * n := by
  have hi := jn_inv ha hb
  have ho := mids_ok ha hb
  have gi := glue_inv _ _ hi ho
  have ga := glue_alive _ _ hi ho z h1 ((jn_alive ha hb).2 h2)
  refine ⟨fun e => ?_, ?_⟩
  · have := glue_dead _ _ hi ho _ (.inl e); rw [gi] at this; exact ga this.symm
  · refine Classical.byContradiction fun e => ?_
    have := glue_dead _ _ hi ho ((glue (mids n) (jn n a b)).1 z) (.inr (jn_off (by omega))); rw [gi] at this; exact ga this.symm
theorem prod_emb {n : Nat} {a b : Nat → Nat} (ha : Mat n a) (hb : Mat n b) {p : Nat} (h : p < 2 * n) : emb n (prod n a b p) = (glue (mids n) (jn n a b)).1 (emb n p) ∧ prod n a b p < 2 * n := by
  have e := emb_out h
  have g := glue_out ha hb e.1 e.2
  exact emb_une g.1 g.2
theorem prod_mat {n : Nat} {a b : Nat → Nat} (ha : Mat n a) (hb : Mat n b) : Mat n (prod n a b) := by
  intro p hp
  have h1 := prod_emb ha hb hp
  have h2 := prod_emb ha hb h1.2
  have gi := glue_inv _ _ (jn_inv ha hb) (mids_ok ha hb)
  refine ⟨h1.2, fun e => ?_, ?_⟩
  · have ga := glue_alive _ _ (jn_inv ha hb) (mids_ok ha hb) _ (emb_out hp).1 ((jn_alive ha hb).2 (emb_out hp).2)
    rw [e] at h1; exact ga h1.1.symm
  · have h3 := h2.1
    rw [h1.1, gi] at h3
    have := congrArg (une n) h3
    rwa [une_emb, une_emb] at this
/-- what a walk from an outer point finds is the partner in the product -/
theorem prod_path {n : Nat} {a b : Nat → Nat} (ha : Mat n a) (hb : Mat n b) {p q : Nat} (hp : p < 2 * n) (h : Path (jn n a b) (mids n) (emb n p) q) : une n q = prod n a b p := by
  unfold prod
  rw [path_glue _ _ (jn_inv ha hb) (mids_ok ha hb) (emb_out hp).1 h]
/-! ### the steps through the middle -/
theorem tau_up {n : Nat} {a b : Nat → Nat} (ha : Mat n a) (hb : Mat n b) {m : Nat} (hm : m < n) : tau (mids n) (n + m) = 2 * n + m ∧ tau (mids n) (2 * n + m) = n + m := tau_prs n (mids_ok ha hb) m hm
/-- the indices whose curves stay in the middle -/
def Cl (n : Nat) (a b : Nat → Nat) (m : Nat) : Prop := m < n ∧ ∀ z, Conn (jn n a b) (tau (mids n)) (n + m) z → pts (mids n) z
theorem cl_ixs {n : Nat} {a b : Nat → Nat} (ha : Mat n a) (hb : Mat n b) : Ixs (up n) (dn n) n (jn n a b) (Cl n a b) (fun m => a (n + m) - n) (fun m => b m) := by
  refine ⟨fun m h => h.1, fun m hm => ⟨fun h => h.2, fun h => ⟨hm, h⟩⟩, fun m h => ?_, fun m h => ?_⟩
  · obtain ⟨hm, h⟩ := h
    have c1 : Conn (jn n a b) (tau (mids n)) (n + m) (a (n + m)) := by
      have := Conn.s (σ := jn n a b) (τ := tau (mids n)) (x := n + m) _ .refl
      rwa [jn_lo (by omega)] at this
    have h1 := mids_pts.1 (h _ c1)
    have h2 := (ha (n + m) (by omega)).1
    have e : n + (a (n + m) - n) = a (n + m) := by omega
    refine ⟨⟨by omega, fun z hz => ?_⟩, ?_⟩
    · rw [e] at hz; exact h _ (c1.trans hz)
    · simp only [up]; rw [jn_lo (by omega), e]
  · obtain ⟨hm, h⟩ := h
    have c1 : Conn (jn n a b) (tau (mids n)) (n + m) (2 * n + b m) := by
      have := Conn.s _ (Conn.t (σ := jn n a b) (τ := tau (mids n)) (x := n + m) _ .refl)
      rwa [(tau_up ha hb hm).1, jn_hi (by omega)] at this
    have h1 := mids_pts.1 (h _ c1)
    have h2 := (hb m (by omega)).1
    have hbm : b m < n := by omega
    have c2 : Conn (jn n a b) (tau (mids n)) (n + m) (n + b m) := by
      have := Conn.t _ c1
      rwa [(tau_up ha hb hbm).2] at this
    refine ⟨⟨hbm, fun z hz => h _ (c2.trans hz)⟩, ?_⟩
    simp only [dn]; rw [jn_hi (by omega)]
theorem cl_pairs {n : Nat} {a b : Nat → Nat} (ha : Mat n a) (hb : Mat n b) : Pairs (Cl n a b) (fun m => a (n + m) - n) ∧ Pairs (Cl n a b) (fun m => b m) := by
  have h := cl_ixs ha hb
  refine ⟨⟨fun m u => (h.sA m u).1, fun m u e => ?_, fun m u => ?_⟩, ⟨fun m u => (h.sB m u).1, fun m u => ?_, fun m u => ?_⟩⟩
  · have h1 := (h.sA m u).2
    have hm := u.1
    simp only [up] at h1
    rw [jn_lo (by omega), e] at h1
    exact (ha _ (by omega)).2.1 h1
  · have h1 := (h.sA m u).2
    have hm := u.1
    simp only [up] at h1
    rw [jn_lo (by omega)] at h1
    show a (n + (a (n + m) - n)) - n = m
    rw [← h1, (ha _ (by omega)).2.2]; omega
  · have hm := u.1
    exact (hb m (by omega)).2.1
  · have hm := u.1
    exact (hb m (by omega)).2.2
theorem lops_fst {n : Nat} {a b : Nat → Nat} (ha : Mat n a) (hb : Mat n b) : lops n a b = cntP (Fst (Cl n a b) (fun m => a (n + m) - n) (fun m => b m)) n := by
  unfold lops mids
  rw [glue_count _ _ _ _ (jn_inv ha hb) (mids_ok ha hb)]
  exact cntP_congr n (fun i hi => (cl_ixs ha hb).mn (jn_inv ha hb) (mids_ok ha hb) hi)
/-- what the ways meet is what is not closed in the middle -/
theorem met_cl {n : Nat} {a b : Nat → Nat} (ha : Mat n a) (hb : Mat n b) {m : Nat} (hm : m < n) : (∃ o, ¬ pts (mids n) o ∧ Conn (jn n a b) (tau (mids n)) o (n + m)) ↔ ¬ Cl n a b m := by
  have hi := jn_inv ha hb
  have ht := tau_inv (mids_ok ha hb)
  constructor
  · rintro ⟨o, h1, h2⟩ h3
    exact h1 (h3.2 o (h2.symm hi ht))
  · intro h
    refine Classical.byContradiction fun e => h ⟨hm, fun z hz => Classical.byContradiction fun f => e ⟨z, f, hz.symm hi ht⟩⟩
end Go.Proofs.Ytjfkompfkgjdaaa.G
end
section
/- The product as the program makes it is the gluing along the middle. -/
namespace Go.Proofs.Ytjfkompfkgjdaaa.L
open Go.RowKit Go.Proofs.Ytjfkompfkgjdaaa.PC Go.Proofs.YtjfkompfkgjdaaaW.PrintWords Go.Proofs.YtjfkompfkgjdaaaW.PrintLast Go.Proofs.Ytjfkompfkgjdaaa.G
/-- a list as a function -/
def fn (l : List Int) (z : Nat) : Nat := (rd l (z : Int)).toNat
/-- a list that is a matching of 2 n points -/
structure LM (n : Nat) (l : List Int) : Prop where
  len : l.length = 2 * n
  nn : ∀ z : Nat, z < 2 * n → rd l (z : Int) = (fn l z : Int)
  mat : Mat n (fn l)
def prodL (n : Nat) (a b : List Int) : List Int := (List.range (2 * n)).map (fun p => (prod n (fn a) (fn b) p : Int))
theorem rd_range (f : Nat → Int) (N z : Nat) (h : z < N) : rd ((List.range N).map f) (z : Int) = f z := by
  simp [rd, List.getD_eq_getElem?_getD, h]
theorem prodL_rd {n : Nat} {a b : List Int} {z : Nat} (h : z < 2 * n) : rd (prodL n a b) (z : Int) = (prod n (fn a) (fn b) z : Int) := rd_range _ _ _ h
theorem prodL_len {n : Nat} {a b : List Int} : (prodL n a b).length = 2 * n := by simp [prodL]
theorem prodL_fn {n : Nat} {a b : List Int} {z : Nat} (h : z < 2 * n) : fn (prodL n a b) z = prod n (fn a) (fn b) z := by
  show (rd (prodL n a b) (z : Int)).toNat = _
  rw [prodL_rd h, Int.toNat_natCast]
theorem mat_congr {n : Nat} {a b : Nat → Nat} (h : ∀ z, z < 2 * n → a z = b z) (hb : Mat n b) : Mat n a := by
  intro z hz
  have := hb z hz
  rw [h z hz, h _ this.1]
  exact this
theorem prodL_lm {n : Nat} {a b : List Int} (ha : LM n a) (hb : LM n b) : LM n (prodL n a b) :=
  ⟨prodL_len, fun z hz => by rw [prodL_rd hz, prodL_fn hz], mat_congr (fun z hz => prodL_fn hz) (prod_mat ha.mat hb.mat)⟩
theorem list_eq {a b : List Int} (hl : a.length = b.length) (h : ∀ z : Nat, z < a.length → rd a (z : Int) = rd b (z : Int)) : a = b := by
  apply List.ext_getElem hl
  intro i h1 h2
  have := h i h1
  simpa [rd, List.getD_eq_getElem?_getD, h1, h2] using this
/-! ### the ways -/
abbrev sg (n : Nat) (a b : List Int) : Nat → Nat := jn n (fn a) (fn b)
/-- the points that a list of marks, by index, marks -/
def MT (n : Nat) (T : List Bool) (u : Nat) : Prop := T.getD (u % n) false = true
theorem getD_set (T : List Bool) (i j : Nat) (h : i < T.length) : (T.set i true).getD j false = true ↔ T.getD j false = true ∨ j = i := by
  by_cases e : i = j
  · subst e; simp [List.getD_eq_getElem?_getD, h]
  · simp only [List.getD_eq_getElem?_getD, List.getElem?_set_ne e]
    exact ⟨fun h => .inl h, fun h => h.elim id (fun f => absurd f.symm e)⟩
theorem mid_mod {n u m : Nat} (hu : pts (mids n) u) (hm : m < n) : u % n = m ↔ u = n + m ∨ u = 2 * n + m := by
  rw [mids_pts] at hu
  by_cases c : u < 2 * n
  · have e : u % n = u - n := by rw [Nat.mod_eq_sub_mod (by omega), Nat.mod_eq_of_lt (by omega)]
    rw [e]; omega
  · have e : u % n = u - n - n := by rw [Nat.mod_eq_sub_mod (by omega), Nat.mod_eq_sub_mod (by omega), Nat.mod_eq_of_lt (by omega)]
    rw [e]; omega
def zOf (n : Nat) (up : Bool) (p : Nat) : Nat := if up = true then p else 2 * n + p
/-- one step from a point to the next one -/
def stp (n : Nat) (a b : List Int) (z : Nat) : Nat := tau (mids n) (sg n a b z)
theorem way_ok {n : Nat} {a b : List Int} (ha : LM n a) (hb : LM n b) (P : Nat → Prop) (p0 : Nat) (d : Nat) : ∀ (fuel : Nat) (up : Bool) (p : Nat) (T : List Bool), d < fuel → p < 2 * n → T.length = n →
    ¬ pts (mids n) (itr (stp n a b) (d + 1) (zOf n up p)) → (∀ i, i < d → pts (mids n) (itr (stp n a b) (i + 1) (zOf n up p))) →
    W1 (sg n a b) (tau (mids n)) (pts (mids n)) P p0 (zOf n up p) (MT n T) →
    ∃ q T', plait_way a b n fuel up (p : Int) T = some ((une n q : Int), T') ∧ T'.length = n ∧ Path (sg n a b) (mids n) (zOf n up p) q ∧ W0 (sg n a b) (tau (mids n)) (pts (mids n)) (fun u => P u ∨ u = p0) (MT n T') := by
  have ho := mids_ok ha.mat hb.mat
  have hs := jn_inv ha.mat hb.mat
  have ht := tau_inv ho
  induction d with
  | zero =>
    intro fuel up p T hf hp hT h1 _ hW
    obtain ⟨k, rfl⟩ : ∃ k, fuel = k + 1 := ⟨fuel - 1, by omega⟩
    have hn : ¬ pts (mids n) (sg n a b (zOf n up p)) := fun e => h1 (tau_pts ho e)
    refine ⟨_, T, ?_, hT, .out _ hn, hW.fin hn⟩
    simp only [plait_way]
    have la := ha.len
    rw [if_pos (by omega)]
    cases up with
    | true =>
      have e : sg n a b (zOf n true p) = fn a p := jn_lo hp
      have hlt := (ha.mat p hp).1
      rw [e, mids_pts] at hn
      rw [if_pos rfl, ha.nn p hp, if_pos (decide_eq_true (by omega)).symm, e]
      unfold une; rw [if_pos (by omega)]
    | false =>
      have e : sg n a b (zOf n false p) = 2 * n + fn b p := jn_hi hp
      have hlt := (hb.mat p hp).1
      rw [e, mids_pts] at hn
      simp only [Bool.false_eq_true, ↓reduceIte]
      rw [hb.nn p hp, if_pos (decide_eq_false (by omega)).symm, e]
      unfold une; rw [if_neg (by omega), Nat.add_sub_cancel_left]
  | succ d ih =>
    intro fuel up p T hf hp hT h1 h2 hW
    obtain ⟨k, rfl⟩ : ∃ k, fuel = k + 1 := ⟨fuel - 1, by omega⟩
    have h3 : pts (mids n) (sg n a b (zOf n up p)) := by
      have := h2 0 (by omega)
      have e : itr (stp n a b) (0 + 1) (zOf n up p) = tau (mids n) (sg n a b (zOf n up p)) := rfl
      rw [e] at this
      have := tau_pts ho this
      rwa [ht] at this
    have la := ha.len
    -- the middle point
    obtain ⟨m, hm, hx, hz⟩ : ∃ m, m < n ∧ (if up = true then fn a p = n + m else fn b p = m) ∧ stp n a b (zOf n up p) = zOf n (!up) (if up = true then m else n + m) := by
      cases up with
      | true =>
        have e : sg n a b (zOf n true p) = fn a p := jn_lo hp
        have hlt := (ha.mat p hp).1
        rw [e, mids_pts] at h3
        have e2 : fn a p = n + (fn a p - n) := by omega
        refine ⟨fn a p - n, by omega, by rw [if_pos rfl]; exact e2, ?_⟩
        unfold stp
        rw [e, if_pos rfl, e2, (tau_up ha.mat hb.mat (by omega)).1, Nat.add_sub_cancel_left]
        rfl
      | false =>
        have e : sg n a b (zOf n false p) = 2 * n + fn b p := jn_hi hp
        have hlt := (hb.mat p hp).1
        rw [e, mids_pts] at h3
        refine ⟨fn b p, by omega, by rw [if_neg (by decide)], ?_⟩
        unfold stp
        rw [e, if_neg (by decide), (tau_up ha.mat hb.mat (by omega)).2]
        rfl
    have hm2 : (MT n (T.set m true)) = fun u => (T.set m true).getD (u % n) false = true := rfl
    have hM : ∀ u, pts (mids n) u → (MT n (T.set m true) u ↔ MT n T u ∨ u = sg n a b (zOf n up p) ∨ u = tau (mids n) (sg n a b (zOf n up p))) := by
      intro u hu
      unfold MT
      rw [getD_set _ _ _ (by omega), mid_mod hu hm]
      have e1 : sg n a b (zOf n up p) = if up = true then n + m else 2 * n + m := by
        cases up with
        | true => rw [if_pos rfl]; rw [if_pos rfl] at hx; exact (jn_lo hp).trans hx
        | false => rw [if_neg (by decide)]; rw [if_neg (by decide)] at hx; exact (jn_hi hp).trans (by rw [hx])
      have e2 : tau (mids n) (sg n a b (zOf n up p)) = if up = true then 2 * n + m else n + m := by
        rw [e1]
        cases up with
        | true => exact (tau_up ha.mat hb.mat hm).1
        | false => exact (tau_up ha.mat hb.mat hm).2
      rw [e2, e1]
      cases up with
      | true => simp
      | false => simp; exact ⟨fun h => h.elim .inl (fun h => .inr h.symm), fun h => h.elim .inl (fun h => .inr h.symm)⟩
    have hW' := hW.step hs ht (fun u hu => tau_pts ho hu) h3 hM
    have e4 : tau (mids n) (sg n a b (zOf n up p)) = zOf n (!up) (if up = true then m else n + m) := hz
    rw [e4] at hW'
    obtain ⟨q, T', g1, g2, g3, g4⟩ := ih k (!up) (if up = true then m else n + m) (T.set m true) (by omega) (by split <;> omega) (by simpa using hT)
      (by rw [← hz]; exact h1) (fun i hi => by rw [← hz]; exact h2 (i + 1) (by omega)) hW'
    refine ⟨q, T', ?_, g2, .via _ _ h3 (by rw [e4]; exact g3), g4⟩
    rw [← g1]
    simp only [plait_way]
    rw [if_pos (by omega)]
    cases up with
    | true =>
      rw [if_pos rfl] at hx
      have e5 : (((n + m : Nat)) : Int) % (n : Int) = (m : Int) := by
        rw [← Int.natCast_emod, Nat.add_mod_left, Nat.mod_eq_of_lt hm]
      rw [if_pos rfl, ha.nn p hp, hx, if_neg (by rw [decide_eq_false (by omega)]; decide), if_pos (by omega), if_pos rfl, if_pos rfl, e5]
      rfl
    | false =>
      rw [if_neg (by decide)] at hx
      have e5 : ((m : Nat) : Int) % (n : Int) = (m : Int) := by
        rw [← Int.natCast_emod, Nat.mod_eq_of_lt hm]
      simp only [Bool.false_eq_true, ↓reduceIte]
      rw [hb.nn p hp, hx, if_neg (by rw [decide_eq_true (by omega)]; decide), if_pos (by omega), e5]
      rw [show ((m : Nat) : Int) + (n : Int) = ((n + m : Nat) : Int) by omega]
      rfl
theorem way_start {n : Nat} {a b : List Int} (ha : LM n a) (hb : LM n b) (P : Nat → Prop) (up : Bool) (p : Nat) (T : List Bool) (hp : p < 2 * n) (hT : T.length = n) (ho : zOf n up p = emb n p)
    (hW : W0 (sg n a b) (tau (mids n)) (pts (mids n)) P (MT n T)) :
    ∃ T', plait_way a b n (2 * n + 2) up (p : Int) T = some ((prod n (fn a) (fn b) p : Int), T') ∧ T'.length = n ∧ W0 (sg n a b) (tau (mids n)) (pts (mids n)) (fun u => P u ∨ u = emb n p) (MT n T') := by
  have ok := mids_ok ha.mat hb.mat
  have hs := jn_inv ha.mat hb.mat
  have ht := tau_inv ok
  have e := emb_out hp
  obtain ⟨k, hk, h1, h2⟩ := leaves (f := stp n a b) (fun x y h => hs.inj (ht.inj h)) (pts (mids n)) (fun z => z - n) (2 * n) (fun z hz => by rw [mids_pts] at hz; omega) (fun u v hu hv h => by rw [mids_pts] at hu hv; omega) (emb n p) e.1
  rw [← ho] at h1 h2
  obtain ⟨q, T', g1, g2, g3, g4⟩ := way_ok ha hb P (emb n p) k (2 * n + 2) up p T (by omega) hp hT h1 h2 (by rw [ho]; exact hW.start e.1)
  rw [ho] at g3
  rw [prod_path ha.mat hb.mat hp g3] at g1
  exact ⟨T', g1, g2, g4⟩
end Go.Proofs.Ytjfkompfkgjdaaa.L
end
section
namespace Go.Proofs.Ytjfkompfkgjdaaa.PC
open Go.RowKit Go.Proofs.YtjfkompfkgjdaaaW.PrintWords Go.Proofs.YtjfkompfkgjdaaaW.PrintLast Go.Proofs.YtjfkompfkgjdaaaW.PrintMore
attribute [local go_sem] max2_int min2_int max_two min_two max_three min_three max_four min_four   -- for this text's walks alone
set_option linter.unusedVariables false
set_option linter.unusedSimpArgs false
end Go.Proofs.Ytjfkompfkgjdaaa.PC
end
section
/- Arch systems: the partners of the points, and the closed curves of two of them, by the program and by the specification. -/
namespace Go.Proofs.Ytjfkompfkgjdaaa.L
open Go.RowKit Go.Proofs.Ytjfkompfkgjdaaa.PC Go.Proofs.YtjfkompfkgjdaaaW.PrintWords Go.Proofs.YtjfkompfkgjdaaaW.PrintLast
theorem pw64 {x : Int} (h0 : -9223372036854775808 ≤ x) (h1 : x ≤ 9223372036854775807) : wrap64 x = x := by unfold wrap64; omega
/-- how many opening brackets among the first i bytes -/
def opn (s : ByteArray) : Nat → Nat
  | 0 => 0
  | i + 1 => opn s i + if bt s (i : Int) = 40 then 1 else 0
structure Inv (s : ByteArray) (q : Nat) (out op : List Int) : Prop where
  len : out.length = s.size
  frng : ∀ x ∈ out, 0 ≤ x ∧ (x < (s.size : Int) ∨ s.size = 0)
  fop : ∀ x ∈ op, 0 ≤ x ∧ x < (q : Int)
  cnt : op.length + q = 2 * opn s q
  br : ∀ i : Nat, i < q → bt s (i : Int) = 40 ∨ bt s (i : Int) = 41
  dep : ∀ i : Nat, i ≤ q → i ≤ 2 * opn s i
/-- what is known of an arch system and its partners -/
structure Arch (s : ByteArray) (o : List Int) : Prop where
  len : o.length = s.size
  pos : s.size ≠ 0
  rng : ∀ x ∈ o, 0 ≤ x ∧ x < (s.size : Int)
  br : ∀ i : Nat, i < s.size → bt s (i : Int) = 40 ∨ bt s (i : Int) = 41
  dep : ∀ i : Nat, i ≤ s.size → i ≤ 2 * opn s i
  bal : s.size = 2 * opn s s.size
/-! ### closed curves -/
theorem count_set (T : List Bool) (i : Nat) (hi : i < T.length) (h : T.getD i false = false) : (T.set i true).count false + 1 = T.count false := by
  induction T generalizing i with
  | nil => simp at hi
  | cons x xs ih =>
    cases i with
    | zero => simp at h; subst h; simp
    | succ i =>
      have := ih i (by simpa using hi) (by simpa using h)
      cases x <;> simp [List.count_cons] at this ⊢ <;> omega
theorem count_set_le (T : List Bool) (i : Nat) : (T.set i true).count false ≤ T.count false := by
  by_cases hi : i < T.length
  · cases h : T.getD i false with
    | false => have := count_set T i hi h; omega
    | true =>
      have e : T.set i true = T := by
        apply List.ext_getElem (by simp)
        intro j h1 h2
        by_cases e : i = j
        · subst e; simp [List.getD_eq_getElem?_getD, hi] at h; simp [h]
        · simp [List.getElem_set, e]
      rw [e]; exact Nat.le_refl _
  · rw [List.set_eq_of_length_le (by omega)]; exact Nat.le_refl _
end Go.Proofs.Ytjfkompfkgjdaaa.L
end
section
/- The product as the program makes it: all ways, the closed curves, and the whole. -/
namespace Go.Proofs.Ytjfkompfkgjdaaa.L
open Go.RowKit Go.Proofs.Ytjfkompfkgjdaaa.PC Go.Proofs.YtjfkompfkgjdaaaW.PrintWords Go.Proofs.YtjfkompfkgjdaaaW.PrintLast Go.Proofs.Ytjfkompfkgjdaaa.G
theorem rd_set (l : List Int) (i j : Nat) (v : Int) (h : i < l.length) : rd (l.set i v) (j : Int) = if j = i then v else rd l (j : Int) := by
  by_cases e : i = j
  · subst e; simp [rd, List.getD_eq_getElem?_getD, h]
  · rw [if_neg (Ne.symm e)]
    simp [rd, List.getD_eq_getElem?_getD, List.getElem?_set_ne e]
/-- the outer points below i, of both sides -/
def done (n i u : Nat) : Prop := ∃ j, j < i ∧ (u = emb n j ∨ u = emb n (n + j))
theorem W0.congr {σ τ : Nat → Nat} {mid P Q M : Nat → Prop} (h : W0 σ τ mid P M) (hq : ∀ u, Q u → P u) : W0 σ τ mid Q M :=
  ⟨fun u hu => h.cl u (hu.elim .inl (fun e => .inr ⟨e.1, hq u e.2⟩)), h.ct, h.low⟩
theorem ways_ok {n : Nat} {a b : List Int} (ha : LM n a) (hb : LM n b) (d : Nat) : ∀ (i : Nat) (out : List Int) (T : List Bool), i + d = n → out.length = 2 * n → T.length = n →
    (∀ j, j < i → rd out (j : Int) = (prod n (fn a) (fn b) j : Int) ∧ rd out ((n + j : Nat) : Int) = (prod n (fn a) (fn b) (n + j) : Int)) →
    W0 (sg n a b) (tau (mids n)) (pts (mids n)) (done n i) (MT n T) →
    ∃ T', plait_ways a b n d i out T = some (prodL n a b, T') ∧ T'.length = n ∧ W0 (sg n a b) (tau (mids n)) (pts (mids n)) (done n n) (MT n T') := by
  induction d with
  | zero =>
    intro i out T hi ho hT hr hW
    obtain rfl : i = n := by omega
    refine ⟨T, ?_, hT, hW⟩
    have e : out = prodL i a b := by
      refine list_eq (by rw [prodL_len, ho]) (fun z hz => ?_)
      rw [prodL_rd (by omega)]
      by_cases c : z < i
      · exact (hr z c).1
      · have := (hr (z - i) (by omega)).2
        rwa [show i + (z - i) = z by omega] at this
    rw [e]; rfl
  | succ d ih =>
    intro i out T hi ho hT hr hW
    have e1 : emb n i = i := by unfold emb; rw [if_pos (by omega)]
    have e2 : emb n (n + i) = 2 * n + (n + i) := by unfold emb; rw [if_neg (by omega)]; omega
    obtain ⟨T1, g1, l1, w1⟩ := way_start ha hb _ true i T (by omega) hT e1.symm hW
    obtain ⟨T2, g2, l2, w2⟩ := way_start ha hb _ false (n + i) T1 (by omega) l1 e2.symm w1
    obtain ⟨T', g3, l3, w3⟩ := ih (i + 1) ((out.set i (prod n (fn a) (fn b) i : Int)).set (n + i) (prod n (fn a) (fn b) (n + i) : Int)) T2 (by omega) (by simpa using ho) l2 (by
      intro j hj
      have lo : n + i < (out.set i (prod n (fn a) (fn b) i : Int)).length := by simp; omega
      rw [rd_set _ _ _ _ lo, rd_set _ _ _ _ (by omega), rd_set _ _ _ _ lo, rd_set _ _ _ _ (by omega)]
      by_cases c : j = i
      · subst c
        rw [if_neg (by omega), if_pos rfl, if_pos rfl]; exact ⟨rfl, rfl⟩
      · rw [if_neg (by omega), if_neg c, if_neg (by omega), if_neg (by omega)]
        exact hr j (by omega)) (W0.congr w2 (fun u ⟨j, hj, hu⟩ => by
          by_cases c : j = i
          · subst c
            rcases hu with hu | hu
            · exact .inl (.inr hu)
            · exact .inr hu
          · exact .inl (.inl ⟨j, by omega, hu⟩)))
    refine ⟨T', ?_, l3, w3⟩
    simp only [plait_ways]
    rw [g1, Option.bind_some, g2, Option.bind_some]
    exact g3
/-! ### the closed curves -/
/-- at which indices the walks stand: over the lower diagram first -/
abbrev fA (n : Nat) (a : List Int) (m : Nat) : Nat := fn a (n + m) - n
abbrev CL (n : Nat) (a b : List Int) : Nat → Prop := Cl n (fn a) (fn b)
def bM (T : List Bool) (m : Nat) : Prop := T.getD m false = true
theorem count_pos {T : List Bool} {i : Nat} (hi : i < T.length) (h : T.getD i false = false) : T.count false ≠ 0 := by
  have := count_set T i hi h; omega
theorem round_ok {n : Nat} {a b : List Int} (hn : n ≤ 1000) (ha : LM n a) (hb : LM n b) (T0 : List Bool) (i : Nat) (c : Nat) : ∀ (fuel at_ : Nat) (T : List Bool), c < fuel → T.count false ≤ c → T.length = n →
    (∀ m, m < n → ¬ CL n a b m → bM T m) → Rd (CL n a b) (fn b) (fA n a) (bM T0) (bM T) i at_ →
    ∃ T', plait_round a b n fuel (at_ : Int) T = some T' ∧ T'.length = n ∧ (∀ m, m < n → ¬ CL n a b m → bM T' m) ∧ ∀ m, CL n a b m → (bM T' m ↔ bM T0 m ∨ Conn (fn b) (fA n a) i m) := by
  obtain ⟨pa, pb⟩ := cl_pairs ha.mat hb.mat
  have hIx := cl_ixs ha.mat hb.mat
  induction c with
  | zero =>
    intro fuel at_ T hf hc hT hU hR
    obtain ⟨k, rfl⟩ : ∃ k, fuel = k + 1 := ⟨fuel - 1, by omega⟩
    have hat := hR.uc.1
    have ht : bM T at_ := by
      unfold bM
      cases e : T.getD at_ false with
      | true => rfl
      | false => exact absurd (Nat.le_zero.1 hc) (count_pos (by omega) e)
    refine ⟨T, ?_, hT, hU, hR.fin pb pa ht⟩
    simp only [plait_round]
    rw [if_pos (by omega), Int.toNat_natCast, if_pos (show T.getD at_ false = true from ht)]
  | succ c ih =>
    intro fuel at_ T hf hc hT hU hR
    obtain ⟨k, rfl⟩ : ∃ k, fuel = k + 1 := ⟨fuel - 1, by omega⟩
    have hat := hR.uc.1
    by_cases ht : bM T at_
    · refine ⟨T, ?_, hT, hU, hR.fin pb pa ht⟩
      simp only [plait_round]
      rw [if_pos (by omega), Int.toNat_natCast, if_pos (show T.getD at_ false = true from ht)]
    · have uB := pb.mem at_ hR.uc
      have hbl := uB.1
      have e := count_set T at_ (by omega) (by unfold bM at ht; simpa using ht)
      have e2 := count_set_le (T.set at_ true) (fn b at_)
      have hM : ∀ m, CL n a b m → (bM ((T.set at_ true).set (fn b at_) true) m ↔ bM T m ∨ m = at_ ∨ m = fn b at_) := by
        intro m _
        unfold bM
        rw [getD_set _ _ _ (by simp; omega), getD_set _ _ _ (by omega), or_assoc]
      obtain ⟨T', g1, g2, g3, g4⟩ := ih k (fA n a (fn b at_)) ((T.set at_ true).set (fn b at_) true) (by omega) (by omega) (by simpa using hT)
        (fun m hm h => by unfold bM; rw [getD_set _ _ _ (by simp; omega), getD_set _ _ _ (by omega)]; exact .inl (.inl (hU m hm h))) (hR.step pb pa ht hM)
      refine ⟨T', ?_, g2, g3, g4⟩
      simp only [plait_round]
      have s1 := (hIx.sA _ uB).2
      simp only [up] at s1
      rw [jn_lo (by omega)] at s1
      have e3 : rd a (rd b (at_ : Int) + (n : Int)) = ((n + fA n a (fn b at_) : Nat) : Int) := by
        rw [hb.nn at_ (by omega), show (fn b at_ : Int) + (n : Int) = ((n + fn b at_ : Nat) : Int) by omega, ha.nn _ (by omega), s1]
      have hlt : fA n a (fn b at_) < n := (pa.mem _ uB).1
      rw [if_pos (by omega), Int.toNat_natCast, if_neg (show ¬ T.getD at_ false = true from ht), e3, hb.nn at_ (by omega), if_pos (by omega), Int.toNat_natCast, show ((n + fA n a (fn b at_) : Nat) : Int) - (n : Int) = (fA n a (fn b at_) : Int) by omega, pw64 (by omega) (by omega)]
      exact g1
theorem loops_ok {n : Nat} {a b : List Int} (hn : n ≤ 1000) (ha : LM n a) (hb : LM n b) (d : Nat) : ∀ (i : Nat) (T : List Bool), i + d = n → T.length = n →
    (∀ m, m < n → ¬ CL n a b m → bM T m) → MetI (CL n a b) (fn b) (fA n a) i (bM T) →
    plait_loops a b n d i (cntP (Fst (CL n a b) (fn b) (fA n a)) i) T = some (cntP (Fst (CL n a b) (fn b) (fA n a)) n) := by
  obtain ⟨pa, pb⟩ := cl_pairs ha.mat hb.mat
  induction d with
  | zero => intro i T hi hT hU hM; obtain rfl : i = n := by omega
            rfl
  | succ d ih =>
    intro i T hi hT hU hM
    simp only [plait_loops]
    by_cases c : bM T i
    · obtain ⟨m1, m2⟩ := hM.skip (fun _ => c)
      rw [if_pos (show T.getD i false = true from c)]
      have := ih (i + 1) T (by omega) hT hU m1
      simp only [cntP] at this
      rwa [if_neg m2] at this
    · have ui : CL n a b i := Classical.byContradiction fun e => c (hU i (by omega) e)
      obtain ⟨ca, cb⟩ := hM.closed pb pa
      obtain ⟨T', g1, g2, g3, g4⟩ := round_ok hn ha hb T i n (n + 1) i T (by omega) (by rw [← hT]; exact List.count_le_length) hT hU (Rd.start pb pa ca cb ui c)
      obtain ⟨m1, m2⟩ := hM.round ui c g4
      rw [if_neg (show ¬ T.getD i false = true from c), g1, Option.bind_some]
      have := ih (i + 1) T' (by omega) g2 g3 m1
      simp only [cntP] at this
      rwa [if_pos m2] at this
theorem done_all {n : Nat} {a b : List Int} (ha : LM n a) (hb : LM n b) (u : Nat) (hu : ¬ pts (mids n) u) : done n n u ∨ sg n a b u = u := by
  by_cases c : u < 4 * n
  · refine .inl ?_
    have e := emb_une hu c
    by_cases d : une n u < n
    · exact ⟨une n u, d, .inl e.1.symm⟩
    · exact ⟨une n u - n, by omega, .inr (by rw [show n + (une n u - n) = une n u by omega]; exact e.1.symm)⟩
  · exact .inr (jn_off (by omega))
/-- the program's product is the gluing -/
theorem product_ok {n : Nat} {a b : List Int} (hn : n ≤ 500) (ha : LM n a) (hb : LM n b) : plait_diagram_product.f a b = some (prodL n a b, (lops n (fn a) (fn b) : Int)) := by
  have ho := mids_ok ha.mat hb.mat
  have la := ha.len
  have lb := hb.len
  have e : a.length / 2 = n := by omega
  have w0 : W0 (sg n a b) (tau (mids n)) (pts (mids n)) (done n 0) (MT n (List.replicate n false)) := by
    have no : ∀ u, ¬ MT n (List.replicate n false) u := fun u h => by
      unfold MT at h
      rw [List.getD_eq_getElem?_getD, List.getElem?_replicate] at h
      split at h <;> simp at h
    exact ⟨fun u hu => hu.elim (fun h => absurd h.2 (no u)) (fun h => by obtain ⟨j, hj, _⟩ := h.2; omega), fun u _ h => absurd h (no u), fun u _ h => absurd h (no u)⟩
  obtain ⟨T, g1, g2, g3⟩ := ways_ok ha hb n 0 (List.replicate (2 * n) 0) (List.replicate n false) (by omega) (by simp) (by simp) (fun j hj => by omega) w0
  have all := g3.all (fun u hu => (tau_out ho).2 hu) (done_all ha hb)
  have hT : ∀ m, m < n → (bM T m ↔ ¬ CL n a b m) := by
    intro m hm
    rw [← met_cl ha.mat hb.mat hm, ← all (n + m) (mids_pts.2 (by omega))]
    unfold MT bM
    rw [Nat.add_mod_left, Nat.mod_eq_of_lt hm]
  have g4 := loops_ok (by omega) ha hb n 0 T (by omega) g2 (fun m hm h => (hT m hm).2 h) (fun m um => ⟨fun t => absurd um ((hT m um.1).1 t), fun ⟨j, hj, _⟩ => by omega⟩)
  unfold plait_diagram_product.f
  rw [if_pos (by omega), e, la, g1, Option.bind_some]
  simp only [cntP] at g4
  rw [g4, Option.bind_some, lops_fst ha.mat hb.mat, cntP_congr n (fun i _ => fst_swap)]
end Go.Proofs.Ytjfkompfkgjdaaa.L
end
section
/- The pile of open points, and pairings without crossings: plain. -/
namespace Go.Proofs.Ytjfkompfkgjdaaa.G
/-! ### the pile of open points -/
def run (D : Nat → Nat) : Nat → Nat → List Nat → List Nat
  | 0, _, st => st
  | d + 1, x, [] => run D d (x + 1) [x]
  | d + 1, x, y :: st => if y = D x then run D d (x + 1) st else run D d (x + 1) (x :: y :: st)
/-- a pairing of the points below N -/
def PairN (N : Nat) (D : Nat → Nat) : Prop := ∀ x, x < N → D x < N ∧ D x ≠ x ∧ D (D x) = x
def NCD (N : Nat) (D : Nat → Nat) : Prop := ∀ a c, a < N → c < N → ¬ (a < c ∧ c < D a ∧ D a < D c)
/-- falling, below x -/
def Fall : Nat → List Nat → Prop
  | _, [] => True
  | x, y :: st => y < x ∧ Fall y st
theorem Fall.lt {x : Nat} {st : List Nat} (h : Fall x st) : ∀ z, z ∈ st → z < x := by
  induction st generalizing x with
  | nil => intro z hz; cases hz
  | cons y st ih =>
    intro z hz
    rcases List.mem_cons.1 hz with rfl | hz
    · exact h.1
    · have := ih h.2 z hz; have := h.1; omega
theorem Fall.mono {x y : Nat} {st : List Nat} (h : Fall x st) (hxy : x ≤ y) : Fall y st := by
  cases st with
  | nil => trivial
  | cons z st => exact ⟨by have := h.1; omega, h.2⟩
theorem run_back {N : Nat} {D : Nat → Nat} (hD : PairN N D) (d : Nat) : ∀ (x : Nat) (st : List Nat), x + d = N → Fall x st → run D d x st = [] →
    (∀ z, z ∈ st → x ≤ D z) ∧ ∀ a c, a < N → c < N → (a ∈ st ∨ x ≤ a) → (c ∈ st ∨ x ≤ c) → x ≤ D a → ¬ (a < c ∧ c < D a ∧ D a < D c) := by
  induction d with
  | zero =>
    intro x st hx _ h
    simp only [run] at h
    subst h
    refine ⟨fun z hz => (by cases hz), fun a c ha _ _ _ h => ?_⟩
    have := (hD a ha).1
    omega
  | succ d ih =>
    intro x st hx hf h
    have hxN : x < N := by omega
    have push : run D d (x + 1) (x :: st) = [] → (∀ z, z ∈ st → x ≤ D z) ∧ ∀ a c, a < N → c < N → (a ∈ st ∨ x ≤ a) → (c ∈ st ∨ x ≤ c) → x ≤ D a → ¬ (a < c ∧ c < D a ∧ D a < D c) := by
      intro h
      obtain ⟨h1, h2⟩ := ih (x + 1) (x :: st) (by omega) ⟨by omega, hf⟩ h
      have hx1 := h1 x List.mem_cons_self
      refine ⟨fun z hz => by have := h1 z (List.mem_cons_of_mem _ hz); omega, fun a c ha hc ma mc hda hcr => ?_⟩
      have e : D a ≠ x := fun e => by
        have := (hD a ha).2.2; rw [e] at this; omega
      refine h2 a c ha hc ?_ ?_ (by omega) hcr
      · rcases ma with ma | ma
        · exact .inl (List.mem_cons_of_mem _ ma)
        · by_cases q : a = x
          · exact .inl (q ▸ List.mem_cons_self)
          · exact .inr (by omega)
      · rcases mc with ma | ma
        · exact .inl (List.mem_cons_of_mem _ ma)
        · by_cases q : c = x
          · exact .inl (q ▸ List.mem_cons_self)
          · exact .inr (by omega)
    cases st with
    | nil => exact push h
    | cons y st =>
      simp only [run] at h
      by_cases c : y = D x
      · rw [if_pos c] at h
        have yx : y < x := hf.1
        obtain ⟨h1, h2⟩ := ih (x + 1) st (by omega) (hf.2.mono (by omega)) h
        have dy : D y = x := by rw [c, (hD x hxN).2.2]
        refine ⟨fun z hz => ?_, fun a b ha hb ma mb hda hcr => ?_⟩
        · rcases List.mem_cons.1 hz with rfl | hz
          · omega
          · have := h1 z hz; omega
        · have e : D a ≠ x := fun e => by
            have e2 := (hD a ha).2.2
            rw [e, ← c] at e2
            subst e2
            rcases mb with mb | mb
            · rcases List.mem_cons.1 mb with rfl | mb
              · omega
              · have := hf.2.lt b mb; omega
            · omega
          have mem : ∀ u, (u ∈ y :: st ∨ x ≤ u) → x + 1 ≤ D u → u ∈ st ∨ x + 1 ≤ u := by
            intro u mu hu
            rcases mu with mu | mu
            · rcases List.mem_cons.1 mu with rfl | mu
              · omega
              · exact .inl mu
            · by_cases q : u = x
              · subst q; omega
              · exact .inr (by omega)
          exact h2 a b ha hb (mem a ma (by omega)) (mem b mb (by omega)) (by omega) hcr
      · rw [if_neg c] at h
        exact push h
/-- the pile of a pairing without crossings: those that are still open -/
def Stay (N : Nat) (D : Nat → Nat) (x : Nat) (st : List Nat) : Prop := Fall x st ∧ ∀ z, z ∈ st ↔ z < x ∧ x ≤ D z
theorem open_step {N : Nat} {D : Nat → Nat} (hD : PairN N D) (hn : NCD N D) {x : Nat} (hx : x < N) {st : List Nat} (h : Stay N D x st) :
    (D x < x ∧ ∃ st', st = D x :: st' ∧ Stay N D (x + 1) st') ∨ (x < D x ∧ (∀ y st', st = y :: st' → y ≠ D x) ∧ Stay N D (x + 1) (x :: st)) := by
  obtain ⟨h1, h2, h3⟩ := hD x hx
  by_cases c : D x < x
  · refine .inl ⟨c, ?_⟩
    have m : D x ∈ st := (h.2 _).2 ⟨c, by omega⟩
    cases st with
    | nil => cases m
    | cons y st =>
      have hy := (h.2 y).1 List.mem_cons_self
      have e : y = D x := by
        refine Classical.byContradiction fun ne => ?_
        rcases List.mem_cons.1 m with q | q
        · exact ne q.symm
        · have l := h.1.2.lt _ q
          have hyN : y < N := by omega
          have : D y ≠ x := fun e => by have := (hD y hyN).2.2; rw [e] at this; exact ne this.symm
          exact hn (D x) y h1 hyN ⟨l, by omega, by omega⟩
      subst e
      refine ⟨st, rfl, h.1.2.mono (by omega), fun z => ⟨fun hz => ?_, fun hz => ?_⟩⟩
      · have l := h.1.2.lt z hz
        have := (h.2 z).1 (List.mem_cons_of_mem _ hz)
        have ne : D z ≠ x := fun e => by have := (hD z (by omega)).2.2; rw [e] at this; omega
        omega
      · have ne : z ≠ x := fun e => by subst e; omega
        rcases List.mem_cons.1 ((h.2 z).2 ⟨by omega, by omega⟩) with q | q
        · subst q; omega
        · exact q
  · refine .inr ⟨by omega, fun y st' e q => ?_, ⟨by omega, h.1⟩, fun z => ⟨fun hz => ?_, fun hz => ?_⟩⟩
    · have := (h.2 y).1 (by rw [e]; exact List.mem_cons_self); omega
    · rcases List.mem_cons.1 hz with rfl | hz
      · omega
      · have := (h.2 z).1 hz
        have ne : D z ≠ x := fun e => by have := (hD z (by omega)).2.2; rw [e] at this; omega
        omega
    · by_cases e : z = x
      · rw [e]; exact List.mem_cons_self
      · exact List.mem_cons_of_mem _ ((h.2 z).2 ⟨by omega, by omega⟩)
theorem open_run {N : Nat} {D : Nat → Nat} (hD : PairN N D) (hn : NCD N D) (d : Nat) : ∀ (x : Nat) (st : List Nat), x + d = N → Stay N D x st → run D d x st = [] := by
  induction d with
  | zero =>
    intro x st hx h
    obtain rfl : x = N := by omega
    simp only [run]
    cases st with
    | nil => rfl
    | cons y st =>
      have := (h.2 y).1 List.mem_cons_self
      have := (hD y (by omega)).1
      omega
  | succ d ih =>
    intro x st hx h
    rcases open_step hD hn (by omega : x < N) h with ⟨_, st', rfl, g⟩ | ⟨_, g1, g⟩
    · simp only [run]
      rw [if_pos trivial]
      exact ih (x + 1) st' (by omega) g
    · cases st with
      | nil => exact ih (x + 1) _ (by omega) g
      | cons y st =>
        simp only [run]
        rw [if_neg (g1 y st rfl)]
        exact ih (x + 1) _ (by omega) g
theorem run_iff {N : Nat} {D : Nat → Nat} (hD : PairN N D) : run D N 0 [] = [] ↔ NCD N D := by
  constructor
  · intro h a c ha hc
    exact (run_back hD N 0 [] (by omega) trivial h).2 a c ha hc (.inr (by omega)) (.inr (by omega)) (by omega)
  · intro h
    exact open_run hD h N 0 [] (by omega) ⟨trivial, fun z => ⟨fun hz => (by cases hz), fun hz => by omega⟩⟩
end Go.Proofs.Ytjfkompfkgjdaaa.G
end
section
/- What a diagram is, by the program (a pile along the border) and by the specification (no two pairs cross). -/
namespace Go.Proofs.Ytjfkompfkgjdaaa.L
open Go.RowKit Go.Proofs.Ytjfkompfkgjdaaa.PC Go.Proofs.YtjfkompfkgjdaaaW.PrintWords Go.Proofs.YtjfkompfkgjdaaaW.PrintLast Go.Proofs.Ytjfkompfkgjdaaa.G
/-- where a point lies along the border; and which point lies there -/
def bo (n i : Nat) : Nat := if i < n then i else 3 * n - 1 - i
theorem bo_lt {n i : Nat} (h : i < 2 * n) : bo n i < 2 * n := by unfold bo; split <;> omega
theorem bo_bo {n i : Nat} (h : i < 2 * n) : bo n (bo n i) = i := by
  unfold bo
  by_cases c : i < n
  · rw [if_pos c, if_pos c]
  · rw [if_neg c, if_neg (by omega)]; omega
def bl (n : Nat) : List Int := (List.range (2 * n)).map (fun i => (bo n i : Int))
theorem bl_rd {n z : Nat} (h : z < 2 * n) : rd (bl n) (z : Int) = (bo n z : Int) := rd_range _ _ _ h
theorem bl_len (n : Nat) : (bl n).length = 2 * n := by simp [bl]
theorem border_l1 {n : Nat} (hn : n ≤ 1000) (d : Nat) : ∀ j, j + d = n → Ev (fun k => plait_border.l1 k (n : Int) ((List.range (n + j)).map (fun i => (bo n i : Int))) (n : Int) (j : Int)) (bl n) := by
  induction d with
  | zero =>
    intro j hj
    obtain rfl : j = n := by omega
    refine Ev.step (f := fun _ => some (bl j)) (fun k => ?_) (Ev.now _)
    simp only [plait_border.l1]
    rw [if_neg (by omega), show j + j = 2 * j by omega]; rfl
  | succ d ih =>
    intro j hj
    refine Ev.step (fun k => ?_) (ih (j + 1) (by omega))
    simp only [plait_border.l1]
    rw [if_pos (by omega), if_pos (by simp; omega), pw64 (x := 2 * (n : Int)) (by omega) (by omega), pw64 (x := 2 * (n : Int) - 1) (by omega) (by omega), pw64 (x := 2 * (n : Int) - 1 - (j : Int)) (by omega) (by omega), pw64 (by omega) (by omega)]
    rw [show n + (j + 1) = (n + j) + 1 by omega, List.range_succ, List.map_append]
    have e : ((bo n (n + j) : Nat) : Int) = 2 * (n : Int) - 1 - (j : Int) := by unfold bo; rw [if_neg (by omega)]; omega
    simp only [List.map_cons, List.map_nil, e]
    rfl
theorem border_l0 {n : Nat} (hn : n ≤ 1000) (d : Nat) : ∀ j, j + d = n → Ev (fun k => plait_border.l0 k (n : Int) ((List.range j).map (fun i => (bo n i : Int))) (n : Int) (j : Int)) (bl n) := by
  induction d with
  | zero =>
    intro j hj
    obtain rfl : j = n := by omega
    refine Ev.step (fun k => ?_) (border_l1 hn j 0 (by omega))
    simp only [plait_border.l0]
    rw [if_neg (by omega)]; rfl
  | succ d ih =>
    intro j hj
    refine Ev.step (fun k => ?_) (ih (j + 1) (by omega))
    simp only [plait_border.l0]
    rw [if_pos (by omega), if_pos (by simp; omega), pw64 (by omega) (by omega), List.range_succ, List.map_append]
    have e : ((bo n j : Nat) : Int) = (j : Int) := by unfold bo; rw [if_pos (by omega)]
    simp only [List.map_cons, List.map_nil, e]
    rfl
theorem border_ev {n : Nat} (hn : n ≤ 1000) : Ev (fun k => plait_border.f k (n : Int)) (bl n) := Ev.congr (fun k => rfl) (border_l0 hn n 0 (by omega))
theorem refborder {n i : Nat} (hn : n ≤ 1000) (hi : i < 2 * n) : pomaderef07_border.f (n : Int) (i : Int) = some (bo n i : Int) := by
  unfold pomaderef07_border.f bo
  by_cases c : i < n
  · rw [if_pos (by omega), if_pos c]
  · rw [if_neg (by omega), if_neg c, pw64 (x := 3 * (n : Int)) (by omega) (by omega), pw64 (x := 3 * (n : Int) - 1) (by omega) (by omega), pw64 (by omega) (by omega)]
    congr 1; omega
/-- the point has no right partner -/
def bad (l : List Int) (p : Nat) : Prop := rd l (p : Int) < 0 ∨ rd l (p : Int) ≥ (l.length : Int) ∨ rd l (p : Int) = (p : Int) ∨ rd l (rd l (p : Int)) ≠ (p : Int)
theorem lm_of {n : Nat} {l : List Int} (hl : l.length = 2 * n) (h : ∀ p, p < 2 * n → ¬ bad l p) : LM n l := by
  have h1 : ∀ p, p < 2 * n → rd l (p : Int) = (fn l p : Int) ∧ fn l p < 2 * n := by
    intro p hp
    have := h p hp
    unfold bad at this
    unfold fn
    omega
  refine ⟨hl, fun z hz => (h1 z hz).1, fun z hz => ⟨(h1 z hz).2, fun e => ?_, ?_⟩⟩
  · refine h z hz (.inr (.inr (.inl ?_)))
    rw [(h1 z hz).1, e]
  · refine Classical.byContradiction fun e => h z hz (.inr (.inr (.inr ?_)))
    rw [(h1 z hz).1, (h1 _ (h1 z hz).2).1]
    omega
theorem LM.good {n : Nat} {l : List Int} (h : LM n l) {p : Nat} (hp : p < 2 * n) : ¬ bad l p := by
  have h1 := h.nn p hp
  have h2 := h.mat p hp
  have h3 := h.nn _ h2.1
  have hl := h.len
  unfold bad
  rw [h1, h3, h2.2.2]
  omega
instance (l : List Int) (p : Nat) : Decidable (bad l p) := by unfold bad; infer_instance
theorem arch_l0 {n : Nat} {l : List Int} (hn : n ≤ 1000) (hl : l.length = 2 * n) (x : Nat) (hx : x < 2 * n) (st out : List Int) (k : Nat) :
    plait_diagram_arches.l0 (k + 1) l st out (bl n) ((2 * n : Nat) : Int) (x : Int) = plait_diagram_arches.j2 k l st out (bo n x : Int) (rd l (bo n x : Int)) (bl n) ((2 * n : Nat) : Int) (x : Int) (decide (bad l (bo n x))) := by
  have hb := bo_lt hx
  have hbl := bl_len n
  simp only [plait_diagram_arches.l0]
  rw [if_pos (by omega), if_pos (by omega), if_pos (by omega), bl_rd hx, if_pos (by omega), if_pos (by omega)]
  by_cases c1 : rd l (bo n x : Int) < 0
  · rw [if_pos c1, decide_eq_true (.inl c1)]
  · rw [if_neg c1]
    by_cases c2 : rd l (bo n x : Int) ≥ (l.length : Int)
    · rw [if_pos c2, decide_eq_true (.inr (.inl c2))]
    · rw [if_neg c2]
      by_cases c3 : rd l (bo n x : Int) = (bo n x : Int)
      · rw [if_pos c3, decide_eq_true (.inr (.inr (.inl c3)))]
      · rw [if_neg c3, if_pos (by omega), if_pos (by omega)]
        congr 1
        by_cases c4 : rd l (rd l (bo n x : Int)) = (bo n x : Int)
        · rw [c4, decide_eq_false (by unfold bad; omega)]; exact bne_self_eq_false ..
        · rw [decide_eq_true (.inr (.inr (.inr c4)))]; exact bne_iff_ne.2 c4
/-- a point without a right partner: none -/
theorem arch_bad {n : Nat} {l : List Int} (hn : n ≤ 1000) (hl : l.length = 2 * n) (d : Nat) : ∀ (x : Nat) (st out : List Int), x + d = 2 * n → st.length ≤ x → out.length ≤ x → (∃ y, x ≤ y ∧ y < 2 * n ∧ bad l (bo n y)) →
    Ev (fun k => plait_diagram_arches.l0 k l st out (bl n) ((2 * n : Nat) : Int) (x : Int)) ((⟨#[]⟩ : ByteArray), false) := by
  induction d with
  | zero => intro x st out hx _ _ ⟨y, a, b, _⟩; omega
  | succ d ih =>
    intro x st out hx hs ho hy
    refine Ev.step (fun k => arch_l0 hn hl x (by omega) st out k) ?_
    by_cases c : bad l (bo n x)
    · refine Ev.step (f := fun _ => some ((⟨#[]⟩ : ByteArray), false)) (fun k => ?_) (Ev.now _)
      rw [decide_eq_true c]
      simp only [plait_diagram_arches.j2]
      rw [if_pos trivial]
    · have hy' : ∃ y, x + 1 ≤ y ∧ y < 2 * n ∧ bad l (bo n y) := by
        obtain ⟨y, a, b, e⟩ := hy
        have : y ≠ x := fun q => c (q ▸ e)
        exact ⟨y, by omega, b, e⟩
      have e1 : wrap64 ((x : Int) + 1) = ((x + 1 : Nat) : Int) := by rw [pw64 (by omega) (by omega)]; rfl
      rw [decide_eq_false c]
      by_cases c1 : (st.length : Int) > 0
      · have ew : wrap64 ((st.length : Int) - 1) = (st.length : Int) - 1 := pw64 (by omega) (by omega)
        by_cases c2 : rd st ((st.length : Int) - 1) = rd l (bo n x : Int)
        · refine Ev.step (fun k => ?_) (ih (x + 1) (st.take ((st.length : Int) - 1).toNat) (out ++ [41]) (by omega) (by rw [List.length_take]; omega) (by simp; omega) hy')
          simp only [plait_diagram_arches.j2]
          rw [if_neg (by decide), if_pos c1, ew, if_pos (by omega), if_pos (by omega), if_pos c2, if_pos (by omega), if_pos (by omega), e1]
        · refine Ev.step (fun k => ?_) (ih (x + 1) (st ++ [(bo n x : Int)]) (out ++ [40]) (by omega) (by simp; omega) (by simp; omega) hy')
          simp only [plait_diagram_arches.j2]
          rw [if_neg (by decide), if_pos c1, ew, if_pos (by omega), if_pos (by omega), if_neg c2, if_pos (by omega), if_pos (by omega), e1]
      · refine Ev.step (fun k => ?_) (ih (x + 1) (st ++ [(bo n x : Int)]) (out ++ [40]) (by omega) (by simp; omega) (by simp; omega) hy')
        simp only [plait_diagram_arches.j2]
        rw [if_neg (by decide), if_neg c1, if_pos (by omega), if_pos (by omega), e1]
/-- the partner along the border -/
def Db (n : Nat) (l : List Int) (x : Nat) : Nat := bo n (fn l (bo n x))
theorem db_pair {n : Nat} {l : List Int} (h : LM n l) : PairN (2 * n) (Db n l) := by
  intro x hx
  have h1 := bo_lt hx
  have h2 := h.mat _ h1
  refine ⟨bo_lt h2.1, fun e => ?_, ?_⟩
  · have := congrArg (bo n) e
    unfold Db at this
    rw [bo_bo h2.1] at this
    exact h2.2.1 this
  · unfold Db
    rw [bo_bo h2.1, h2.2.2, bo_bo hx]
/-- the brackets that the pile gives -/
def rout (D : Nat → Nat) : Nat → Nat → List Nat → List Int
  | 0, _, _ => []
  | d + 1, x, [] => 40 :: rout D d (x + 1) [x]
  | d + 1, x, y :: st => if y = D x then 41 :: rout D d (x + 1) st else 40 :: rout D d (x + 1) (x :: y :: st)
def pile (n : Nat) (st : List Nat) : List Int := (st.map (fun y => (bo n y : Int))).reverse
theorem pile_cons (n y : Nat) (st : List Nat) : pile n (y :: st) = pile n st ++ [(bo n y : Int)] := by simp [pile]
theorem pile_len (n : Nat) (st : List Nat) : (pile n st).length = st.length := by simp [pile]
theorem pile_top (n y : Nat) (st : List Nat) : rd (pile n (y :: st)) (((pile n (y :: st)).length : Int) - 1) = (bo n y : Int) := by
  have e : (((pile n (y :: st)).length : Int) - 1).toNat = (pile n st).length := by rw [pile_len, pile_len]; simp
  unfold rd
  rw [e, pile_cons]
  simp [List.getD_eq_getElem?_getD]
theorem pile_pop (n y : Nat) (st : List Nat) : (pile n (y :: st)).take (((pile n (y :: st)).length : Int) - 1).toNat = pile n st := by
  have e : (((pile n (y :: st)).length : Int) - 1).toNat = (pile n st).length := by rw [pile_len, pile_len]; simp
  rw [e, pile_cons]
  simp
theorem arch_run {n : Nat} {l : List Int} (hn : n ≤ 1000) (h : LM n l) (d : Nat) : ∀ (x : Nat) (st : List Nat) (out : List Int), x + d = 2 * n → (∀ y, y ∈ st → y < 2 * n) → st.length ≤ x → out.length ≤ x →
    Ev (fun k => plait_diagram_arches.l0 k l (pile n st) out (bl n) ((2 * n : Nat) : Int) (x : Int)) (strOfNums (out ++ rout (Db n l) d x st), (run (Db n l) d x st).isEmpty) := by
  have hl := h.len
  induction d with
  | zero =>
    intro x st out hx hst hs ho
    refine Ev.step (f := fun _ => some (strOfNums (out ++ []), st.isEmpty)) (fun k => ?_) (Ev.now _)
    simp only [plait_diagram_arches.l0]
    rw [if_neg (by omega), List.append_nil, pile_len]
    cases st with
    | nil => rfl
    | cons y st => rfl
  | succ d ih =>
    intro x st out hx hst hs ho
    have hxl : x < 2 * n := by omega
    have hb := bo_lt hxl
    refine Ev.step (fun k => arch_l0 hn hl x hxl _ out k) ?_
    rw [decide_eq_false (h.good hb)]
    have e1 : wrap64 ((x : Int) + 1) = ((x + 1 : Nat) : Int) := by rw [pw64 (by omega) (by omega)]; rfl
    have q := h.nn _ hb
    cases st with
    | nil =>
      have g := ih (x + 1) [x] (out ++ [40]) (by omega) (fun y hy => by simp at hy; omega) (by simp) (by simp; omega)
      rw [pile_cons] at g
      simp only [run, rout]
      rw [List.append_assoc] at g
      refine Ev.step (fun k => ?_) g
      simp only [plait_diagram_arches.j2]
      have e0 : (pile n []).length = 0 := rfl
      rw [if_neg (by decide), if_neg (by omega), if_pos (by omega), if_pos (by omega), e1]
    | cons y st =>
      have hy := hst y List.mem_cons_self
      have pl := pile_len n (y :: st)
      have sl : (y :: st).length = st.length + 1 := rfl
      have ew : wrap64 (((pile n (y :: st)).length : Int) - 1) = ((pile n (y :: st)).length : Int) - 1 := pw64 (by omega) (by omega)
      have hD : y = Db n l x ↔ rd (pile n (y :: st)) (((pile n (y :: st)).length : Int) - 1) = rd l (bo n x : Int) := by
        rw [pile_top, q]
        unfold Db
        constructor
        · intro e; rw [e, bo_bo (h.mat _ hb).1]
        · intro e
          have : bo n y = fn l (bo n x) := by omega
          rw [← this, bo_bo hy]
      by_cases c : y = Db n l x
      · have g := ih (x + 1) st (out ++ [41]) (by omega) (fun z hz => hst z (List.mem_cons_of_mem _ hz)) (by omega) (by simp; omega)
        simp only [run, rout]
        rw [if_pos c, if_pos c]
        rw [List.append_assoc] at g
        refine Ev.step (fun k => ?_) g
        simp only [plait_diagram_arches.j2]
        rw [if_neg (by decide), if_pos (by omega), ew, if_pos (by omega), if_pos (by omega), if_pos (hD.1 c), if_pos (by omega), if_pos (by omega), e1, pile_pop]
      · have g := ih (x + 1) (x :: y :: st) (out ++ [40]) (by omega) (fun z hz => by
          rcases List.mem_cons.1 hz with rfl | hz
          · exact hxl
          · exact hst z hz) (by simp at hs ⊢; omega) (by simp; omega)
        simp only [run, rout]
        rw [if_neg c, if_neg c]
        rw [pile_cons, List.append_assoc] at g
        refine Ev.step (fun k => ?_) g
        simp only [plait_diagram_arches.j2]
        rw [if_neg (by decide), if_pos (by omega), ew, if_pos (by omega), if_pos (by omega), if_neg (fun e => c (hD.2 e)), if_pos (by omega), if_pos (by omega), e1]
/-- a diagram -/
structure Dia (n : Nat) (l : List Int) : Prop where
  pos : 0 < n
  lim : n ≤ 10
  lm : LM n l
  nc : NCD (2 * n) (Db n l)
/-- its brackets -/
def brk (n : Nat) (l : List Int) : List Int := (List.range (2 * n)).map (fun x => if Db n l x < x then 41 else 40)
theorem rout_nc {N : Nat} {D : Nat → Nat} (hD : PairN N D) (hn : NCD N D) (d : Nat) : ∀ (x : Nat) (st : List Nat), x + d = N → Stay N D x st → (List.range x).map (fun y => if D y < y then (41 : Int) else 40) ++ rout D d x st = (List.range N).map (fun y => if D y < y then (41 : Int) else 40) := by
  induction d with
  | zero => intro x st hx _; obtain rfl : x = N := by omega
            simp [rout]
  | succ d ih =>
    intro x st hx h
    rcases open_step hD hn (by omega : x < N) h with ⟨c, st', rfl, g⟩ | ⟨c, g1, g⟩
    · rw [← ih (x + 1) st' (by omega) g, List.range_succ, List.map_append]
      simp [rout, c]
    · rw [← ih (x + 1) _ (by omega) g, List.range_succ, List.map_append]
      have c' : ¬ D x < x := by omega
      cases st with
      | nil => simp [rout, c']
      | cons y st => simp [rout, c', g1 y st rfl]
theorem arches_start {n : Nat} {l : List Int} (hn : n ≤ 1000) (hp : 0 < n) (hl : l.length = 2 * n) {r : ByteArray × Bool} (h : Ev (fun k => plait_diagram_arches.l0 k l [] [] (bl n) ((2 * n : Nat) : Int) ((0 : Nat) : Int)) r) : Ev (fun k => plait_diagram_arches.f k l) r := by
  have e : wrap64 ((l.length : Int) / 2) = (n : Int) := by rw [pw64 (by omega) (by omega)]; omega
  refine Ev.congr (f := fun k => plait_diagram_arches.j0 k l false) (fun k => ?_) ?_
  · unfold plait_diagram_arches.f
    rw [if_neg (by omega)]
    congr 1
    have : (l.length : Int) % 2 = 0 := by omega
    rw [this]; rfl
  · refine Ev.step (f := fun k => (plait_border.f k (n : Int)).bind fun t108 => plait_diagram_arches.l0 k l ([] : List Int) ([] : List Int) t108 (t108.length : Int) 0) (fun k => ?_) ?_
    · simp only [plait_diagram_arches.j0]
      rw [if_neg (by decide)]
      unfold plait_diagram_size.f
      rw [Option.bind_some, e]
    · refine Ev.bind (border_ev hn) ?_
      rw [bl_len]
      exact h
theorem arches_odd {l : List Int} (hl : l.length % 2 = 1 ∨ l.length = 0) : Ev (fun k => plait_diagram_arches.f k l) ((⟨#[]⟩ : ByteArray), false) := by
  refine Ev.congr (f := fun k => plait_diagram_arches.j0 k l true) (fun k => ?_) (Ev.step (f := fun _ => some ((⟨#[]⟩ : ByteArray), false)) (fun k => ?_) (Ev.now _))
  · unfold plait_diagram_arches.f
    by_cases c : l.length = 0
    · rw [if_pos (by omega)]
    · rw [if_neg (by omega)]
      congr 1
      have : (l.length : Int) % 2 = 1 := by omega
      rw [this]; rfl
  · simp only [plait_diagram_arches.j0]
    rw [if_pos trivial]
/-! ### by the specification -/
def Crs (n : Nat) (l : List Int) (i k : Nat) : Prop := bo n i < bo n k ∧ bo n k < bo n (fn l i) ∧ bo n (fn l i) < bo n (fn l k)
theorem crs_nc {n : Nat} {l : List Int} : NCD (2 * n) (Db n l) ↔ ∀ i k, i < 2 * n → k < 2 * n → ¬ Crs n l i k := by
  constructor
  · intro h i k hi hk c
    have := h (bo n i) (bo n k) (bo_lt hi) (bo_lt hk)
    unfold Db at this
    rw [bo_bo hi, bo_bo hk] at this
    exact this c
  · intro h a c ha hc
    have := h (bo n a) (bo n c) (bo_lt ha) (bo_lt hc)
    unfold Crs at this
    rw [bo_bo ha, bo_bo hc] at this
    exact this
instance (n : Nat) (l : List Int) (i k : Nat) : Decidable (Crs n l i k) := by unfold Crs; infer_instance
theorem dia_l2 {n : Nat} {l : List Int} (hn : n ≤ 1000) (h : LM n l) (i x : Nat) (hi : i < 2 * n) (hx : x < 2 * n) (k : Nat) : pomaderef07_Diagram.l2 (k + 1) l (n : Int) (i : Int) (x : Int) = if Crs n l i x then some 2 else pomaderef07_Diagram.l2 k l (n : Int) (i : Int) ((x + 1 : Nat) : Int) := by
  have hl := h.len
  have e1 : wrap64 ((x : Int) + 1) = ((x + 1 : Nat) : Int) := by rw [pw64 (by omega) (by omega)]; rfl
  simp only [pomaderef07_Diagram.l2]
  rw [if_pos (by omega), refborder hn hi, Option.bind_some, if_pos (by omega), if_pos (by omega), h.nn i hi, refborder hn (h.mat i hi).1, Option.bind_some, refborder hn hx, Option.bind_some, if_pos (by omega), h.nn x hx, refborder hn (h.mat x hx).1, Option.bind_some, e1]
  by_cases c1 : bo n i < bo n x
  · rw [if_pos (by omega)]
    by_cases c2 : bo n x < bo n (fn l i)
    · rw [if_pos (by omega)]
      by_cases c3 : bo n (fn l i) < bo n (fn l x)
      · rw [if_pos (by omega), if_pos (show Crs n l i x from ⟨c1, c2, c3⟩)]
      · rw [if_neg (by omega), if_neg (fun c : Crs n l i x => c3 c.2.2)]
    · rw [if_neg (by omega), if_neg (fun c : Crs n l i x => c2 c.2.1)]
  · rw [if_neg (by omega), if_neg (fun c : Crs n l i x => c1 c.1)]
theorem dia_l2_hit {n : Nat} {l : List Int} (hn : n ≤ 1000) (h : LM n l) (i : Nat) (hi : i < 2 * n) (d : Nat) : ∀ x, x + d = 2 * n → (∃ y, x ≤ y ∧ y < 2 * n ∧ Crs n l i y) → Ev (fun k => pomaderef07_Diagram.l2 k l (n : Int) (i : Int) (x : Int)) 2 := by
  induction d with
  | zero => intro x hx ⟨y, a, b, _⟩; omega
  | succ d ih =>
    intro x hx ⟨y, a, b, e⟩
    by_cases c : Crs n l i x
    · exact Ev.step (f := fun _ => some 2) (fun k => by rw [dia_l2 hn h i x hi (by omega) k, if_pos c]) (Ev.now _)
    · refine Ev.step (fun k => by rw [dia_l2 hn h i x hi (by omega) k, if_neg c]) (ih (x + 1) (by omega) ⟨y, ?_, b, e⟩)
      have : y ≠ x := fun q => c (q ▸ e)
      omega
theorem dia_l2_miss {n : Nat} {l : List Int} (hn : n ≤ 1000) (h : LM n l) (i : Nat) (hi : i < 2 * n) {r : Int} (hr : Ev (fun k => pomaderef07_Diagram.l1 k l (n : Int) ((i + 1 : Nat) : Int)) r) (d : Nat) : ∀ x, x + d = 2 * n → (∀ y, x ≤ y → y < 2 * n → ¬ Crs n l i y) → Ev (fun k => pomaderef07_Diagram.l2 k l (n : Int) (i : Int) (x : Int)) r := by
  have hl := h.len
  induction d with
  | zero =>
    intro x hx _
    refine Ev.step (fun k => ?_) hr
    simp only [pomaderef07_Diagram.l2]
    rw [if_neg (by omega), pw64 (by omega) (by omega)]; rfl
  | succ d ih =>
    intro x hx hc
    exact Ev.step (fun k => by rw [dia_l2 hn h i x hi (by omega) k, if_neg (hc x (by omega) (by omega))]) (ih (x + 1) (by omega) (fun y a b => hc y (by omega) b))
theorem dia_l1_hit {n : Nat} {l : List Int} (hn : n ≤ 1000) (h : LM n l) (d : Nat) : ∀ i, i + d = 2 * n → (∃ j, i ≤ j ∧ j < 2 * n ∧ ∃ y, y < 2 * n ∧ Crs n l j y) → Ev (fun k => pomaderef07_Diagram.l1 k l (n : Int) (i : Int)) 2 := by
  have hl := h.len
  induction d with
  | zero => intro x hx ⟨y, a, b, _⟩; omega
  | succ d ih =>
    intro i hi ⟨j, a, b, y, e, f⟩
    refine Ev.step (f := fun k => pomaderef07_Diagram.l2 k l (n : Int) (i : Int) ((0 : Nat) : Int)) (fun k => by simp only [pomaderef07_Diagram.l1]; rw [if_pos (by omega)]; rfl) ?_
    by_cases c : ∃ y, y < 2 * n ∧ Crs n l i y
    · obtain ⟨y, c1, c2⟩ := c
      exact dia_l2_hit hn h i (by omega) (2 * n) 0 (by omega) ⟨y, by omega, c1, c2⟩
    · refine dia_l2_miss hn h i (by omega) (ih (i + 1) (by omega) ⟨j, ?_, b, y, e, f⟩) (2 * n) 0 (by omega) (fun y _ g k => c ⟨y, g, k⟩)
      have : j ≠ i := fun q => c ⟨y, e, q ▸ f⟩
      omega
theorem dia_l1_miss {n : Nat} {l : List Int} (hn : n ≤ 1000) (h : LM n l) (hc : ∀ i k, i < 2 * n → k < 2 * n → ¬ Crs n l i k) (d : Nat) : ∀ i, i + d = 2 * n → Ev (fun k => pomaderef07_Diagram.l1 k l (n : Int) (i : Int)) 0 := by
  have hl := h.len
  induction d with
  | zero =>
    intro i hi
    refine Ev.step (f := fun _ => some 0) (fun k => ?_) (Ev.now _)
    simp only [pomaderef07_Diagram.l1]
    rw [if_neg (by omega)]
  | succ d ih =>
    intro i hi
    refine Ev.step (f := fun k => pomaderef07_Diagram.l2 k l (n : Int) (i : Int) ((0 : Nat) : Int)) (fun k => by simp only [pomaderef07_Diagram.l1]; rw [if_pos (by omega)]; rfl) ?_
    exact dia_l2_miss hn h i (by omega) (ih (i + 1) (by omega)) (2 * n) 0 (by omega) (fun y _ g => hc i y (by omega) g)
theorem dia_l0 {l : List Int} {n : Nat} (x : Nat) (hx : x < l.length) (hl : l.length ≤ 1000) (k : Nat) : (bad l x → pomaderef07_Diagram.l0 (k + 1) l (n : Int) (x : Int) = some 2) ∧ (¬ bad l x → pomaderef07_Diagram.l0 (k + 1) l (n : Int) (x : Int) = pomaderef07_Diagram.l0 k l (n : Int) ((x + 1 : Nat) : Int)) := by
  have e1 : wrap64 ((x : Int) + 1) = ((x + 1 : Nat) : Int) := by rw [pw64 (by omega) (by omega)]; rfl
  simp only [pomaderef07_Diagram.l0]
  rw [if_pos (by omega), if_pos (by omega), e1]
  unfold bad
  by_cases c1 : rd l (x : Int) < 0
  · rw [if_pos c1]; exact ⟨fun _ => rfl, fun h => absurd (.inl c1) h⟩
  · rw [if_neg c1]
    by_cases c2 : rd l (x : Int) ≥ (l.length : Int)
    · rw [if_pos c2]; exact ⟨fun _ => rfl, fun h => absurd (.inr (.inl c2)) h⟩
    · rw [if_neg c2]
      by_cases c3 : rd l (x : Int) = (x : Int)
      · rw [if_pos c3]; exact ⟨fun _ => rfl, fun h => absurd (.inr (.inr (.inl c3))) h⟩
      · rw [if_neg c3, if_pos (by omega), if_pos (by omega)]
        by_cases c4 : rd l (rd l (x : Int)) = (x : Int)
        · rw [if_pos c4]; exact ⟨fun h => by omega, fun _ => rfl⟩
        · rw [if_neg c4]; exact ⟨fun _ => rfl, fun h => absurd (.inr (.inr (.inr c4))) h⟩
theorem dia_l0_hit {l : List Int} {n : Nat} (hl : l.length ≤ 1000) (d : Nat) : ∀ x, x + d = l.length → (∃ y, x ≤ y ∧ y < l.length ∧ bad l y) → Ev (fun k => pomaderef07_Diagram.l0 k l (n : Int) (x : Int)) 2 := by
  induction d with
  | zero => intro x hx ⟨y, a, b, _⟩; omega
  | succ d ih =>
    intro x hx ⟨y, a, b, e⟩
    by_cases c : bad l x
    · exact Ev.step (f := fun _ => some 2) (fun k => (dia_l0 x (by omega) hl k).1 c) (Ev.now _)
    · refine Ev.step (fun k => (dia_l0 x (by omega) hl k).2 c) (ih (x + 1) (by omega) ⟨y, ?_, b, e⟩)
      have : y ≠ x := fun q => c (q ▸ e)
      omega
theorem dia_l0_miss {l : List Int} {n : Nat} (hl : l.length ≤ 1000) (h : ∀ y, y < l.length → ¬ bad l y) {r : Int} (hr : Ev (fun k => pomaderef07_Diagram.l1 k l (n : Int) ((0 : Nat) : Int)) r) (d : Nat) : ∀ x, x + d = l.length → Ev (fun k => pomaderef07_Diagram.l0 k l (n : Int) (x : Int)) r := by
  induction d with
  | zero =>
    intro x hx
    refine Ev.step (fun k => ?_) hr
    simp only [pomaderef07_Diagram.l0]
    rw [if_neg (by omega)]; rfl
  | succ d ih =>
    intro x hx
    exact Ev.step (fun k => (dia_l0 x (by omega) hl k).2 (h x (by omega))) (ih (x + 1) (by omega))
theorem dia_odd {l : List Int} (hl : l.length ≤ 20) (h : l.length % 2 = 1 ∨ l.length = 0) : Ev (fun k => pomaderef07_Diagram.f k l) 2 := by
  have e : wrap64 ((l.length : Int) / 2) = (l.length : Int) / 2 := pw64 (by omega) (by omega)
  refine Ev.congr (f := fun k => pomaderef07_Diagram.j0 k l ((l.length : Int) / 2) true) (fun k => ?_) (Ev.step (f := fun _ => some 2) (fun k => ?_) (Ev.now _))
  · unfold pomaderef07_Diagram.f
    rw [if_neg (by omega), e]
    by_cases c : (l.length : Int) / 2 < 1
    · rw [if_pos c]
    · rw [if_neg c]
      congr 1
      have : (l.length : Int) % 2 = 1 := by omega
      rw [this]; rfl
  · simp only [pomaderef07_Diagram.j0]
    rw [if_pos trivial]
theorem dia_even {l : List Int} {n : Nat} (hn : 0 < n) (hn2 : n ≤ 10) (hl : l.length = 2 * n) {r : Int} (hr : Ev (fun k => pomaderef07_Diagram.l0 k l (n : Int) ((0 : Nat) : Int)) r) : Ev (fun k => pomaderef07_Diagram.f k l) r := by
  have e : wrap64 ((l.length : Int) / 2) = (n : Int) := by rw [pw64 (by omega) (by omega)]; omega
  refine Ev.congr (f := fun k => pomaderef07_Diagram.j0 k l (n : Int) false) (fun k => ?_) (Ev.step (fun k => ?_) hr)
  · unfold pomaderef07_Diagram.f
    rw [if_neg (by omega), e, if_neg (by omega)]
    congr 1
    have : (l.length : Int) % 2 = 0 := by omega
    rw [this]; rfl
  · simp only [pomaderef07_Diagram.j0]
    rw [if_neg (by decide)]; rfl
/-- what the program and the specification say of a list -/
theorem dia_both (l : List Int) : ∃ e : Int, Ev (fun k => plait_of.f k l) e ∧ Ev (fun k => pomaderef07_Diagram.f k l) e ∧ ((e = 3 ∧ l.length > 20) ∨ (e = 2 ∧ l.length ≤ 20) ∨ (e = 0 ∧ ∃ n, Dia n l ∧ Ev (fun k => plait_diagram_arches.f k l) (strOfNums (brk n l), true))) := by
  by_cases c0 : l.length > 20
  · refine ⟨3, Ev.congr (fun k => ?_) (Ev.now _), Ev.congr (fun k => ?_) (Ev.now _), .inl ⟨rfl, c0⟩⟩
    · unfold plait_of.f; rw [if_pos (by omega)]
    · unfold pomaderef07_Diagram.f; rw [if_pos (by omega)]
  · have ofs : ∀ s b, Ev (fun k => plait_diagram_arches.f k l) (s, b) → Ev (fun k => plait_of.f k l) (if b = true then 0 else 2) := by
      intro s b hs
      refine Ev.congr (fun k => by unfold plait_of.f; rw [if_neg (by omega)]) (Ev.bind hs ?_)
      cases b with
      | true => exact Ev.now _
      | false => exact Ev.now _
    by_cases c1 : l.length % 2 = 1 ∨ l.length = 0
    · exact ⟨2, ofs _ _ (arches_odd c1), dia_odd (by omega) c1, .inr (.inl ⟨rfl, by omega⟩)⟩
    · obtain ⟨n, hn⟩ : ∃ n, l.length = 2 * n := ⟨l.length / 2, by omega⟩
      have hp : 0 < n := by omega
      by_cases c2 : ∃ y, y < l.length ∧ bad l y
      · obtain ⟨y, a, b⟩ := c2
        refine ⟨2, ofs _ _ (arches_start (by omega) hp hn (arch_bad (by omega) hn (2 * n) 0 [] [] (by omega) (by simp) (by simp) ⟨bo n y, by omega, bo_lt (by omega), by rw [bo_bo (by omega)]; exact b⟩)), dia_even hp (by omega) hn (dia_l0_hit (by omega) l.length 0 (by omega) ⟨y, by omega, a, b⟩), .inr (.inl ⟨rfl, by omega⟩)⟩
      · have hbad : ∀ y, y < l.length → ¬ bad l y := fun y a b => c2 ⟨y, a, b⟩
        have hL := lm_of hn (fun p hp => hbad p (by omega))
        have hr := arches_start (by omega) hp hn (arch_run (by omega) hL (2 * n) 0 [] [] (by omega) (fun y hy => by cases hy) (by simp) (by simp))
        have hD := db_pair hL
        by_cases c3 : NCD (2 * n) (Db n l)
        · have e1 := (run_iff hD).2 c3
          have e2 := rout_nc hD c3 (2 * n) 0 [] (by omega) ⟨trivial, fun z => ⟨fun hz => (by cases hz), fun hz => by omega⟩⟩
          rw [List.isEmpty_iff.2 e1, List.nil_append] at hr
          simp only [List.range_zero, List.map_nil, List.nil_append] at e2
          rw [e2] at hr
          exact ⟨0, ofs _ _ hr, dia_even hp (by omega) hn (dia_l0_miss (by omega) hbad (dia_l1_miss (by omega) hL (crs_nc.1 c3) (2 * n) 0 (by omega)) l.length 0 (by omega)), .inr (.inr ⟨rfl, n, ⟨hp, by omega, hL, c3⟩, hr⟩)⟩
        · rw [List.isEmpty_eq_false_iff.2 (fun e => c3 ((run_iff hD).1 e))] at hr
          have hc : ∃ i, i < 2 * n ∧ ∃ k, k < 2 * n ∧ Crs n l i k := by
            refine Classical.byContradiction fun e => c3 (crs_nc.2 (fun i k hi hk c => e ⟨i, hi, k, hk, c⟩))
          obtain ⟨i, hi, k, hk, c⟩ := hc
          exact ⟨2, ofs _ _ hr, dia_even hp (by omega) hn (dia_l0_miss (by omega) hbad (dia_l1_hit (by omega) hL (2 * n) 0 (by omega) ⟨i, by omega, hi, k, hk, c⟩) l.length 0 (by omega)), .inr (.inl ⟨rfl, by omega⟩)⟩
end Go.Proofs.Ytjfkompfkgjdaaa.L
end
section
/- Product by the program; equal lists are the same. -/
namespace Go.Proofs.Ytjfkompfkgjdaaa.L
open Go.RowKit Go.Proofs.Ytjfkompfkgjdaaa.PC Go.Proofs.YtjfkompfkgjdaaaW.PrintWords Go.Proofs.YtjfkompfkgjdaaaW.PrintLast Go.Proofs.Ytjfkompfkgjdaaa.G
theorem same_l0 {a : List Int} (ha : a.length ≤ 1000000) (d : Nat) : ∀ i, i + d = a.length → Ev (fun k => pomadelaw07_same.l0 k a a (i : Int)) true := by
  induction d with
  | zero =>
    intro i hi
    refine Ev.step (f := fun _ => some true) (fun k => ?_) (Ev.now _)
    simp only [pomadelaw07_same.l0]
    rw [if_neg (by omega)]
  | succ d ih =>
    intro i hi
    refine Ev.step (fun k => ?_) (ih (i + 1) (by omega))
    simp only [pomadelaw07_same.l0]
    rw [if_pos (by omega), if_pos (by omega), if_pos (by omega), if_pos trivial, pw64 (by omega) (by omega)]
    rfl
theorem same_ev {a : List Int} (ha : a.length ≤ 1000000) : Ev (fun k => pomadelaw07_same.f k a a) true :=
  Ev.congr (fun k => by unfold pomadelaw07_same.f; rw [if_pos rfl]; rfl) (same_l0 ha a.length 0 (by omega))
theorem Dia.two {n m : Nat} {a : List Int} (h : Dia n a) (k : Dia m a) : n = m := by
  have h1 := h.lm.len
  have h2 := k.lm.len
  omega
end Go.Proofs.Ytjfkompfkgjdaaa.L
end
section
namespace Go.Proofs.Ytjfkompfkgjdaaa.PC
open Go.RowKit Go.Proofs.YtjfkompfkgjdaaaW.PrintWords Go.Proofs.YtjfkompfkgjdaaaW.PrintLast Go.Proofs.YtjfkompfkgjdaaaW.PrintMore
attribute [local go_sem] max2_int min2_int max_two min_two max_three min_three max_four min_four   -- for this text's walks alone
set_option linter.unusedVariables false
set_option linter.unusedSimpArgs false
/-! ### pomaderef07_Identity: function 28 -/
def pomaderef07_Identity.l0 : Nat → Int → List Int → Int → Option (List Int)
 | 0, _, _, _ => none
 | k + 1, x0, x3, x4 => if x4 < (wrap64 (2 * x0)) then (if (wrap64 (2 * x0)) = 0 then (none) else (if x3.length < 17592186044416 then (pomaderef07_Identity.l0 k x0 (x3 ++ [Int.tmod (wrap64 (x4 + x0)) (wrap64 (2 * x0))]) (wrap64 (x4 + 1))) else (none))) else (some x3)
def pomaderef07_Identity.f (k : Nat) (a0 : Int) : Option (List Int) := pomaderef07_Identity.l0 k a0 ([] : List Int) 0
theorem pomaderef07_Identity.mono_l : ∀ k, (∀ y0 y1 y2, LeO (pomaderef07_Identity.l0 k y0 y1 y2) (pomaderef07_Identity.l0 (k + 1) y0 y1 y2))
 | 0 => fun _ _ _ r h => by simp [pomaderef07_Identity.l0] at h
 | k + 1 => by
  have ih0 := pomaderef07_Identity.mono_l k
  ·intro y0 y1 y2
   unfold pomaderef07_Identity.l0
   repeat' first
   | (with_reducible exact ih0 _ _ _)
   | (with_reducible exact LeO.refl _)
   | (with_reducible exact LeO.none _)
   | (with_reducible refine LeO.ite ?_ ?_)
   | (with_reducible refine LeO.bind ?_ (fun _ => ?_))
   | exact ih0 _ _ _
   | exact LeO.none _
   | refine LeO.ite ?_ ?_
   | refine LeO.bind ?_ (fun _ => ?_)
theorem pomaderef07_Identity.mono : ∀ a0 k, LeO (pomaderef07_Identity.f k a0) (pomaderef07_Identity.f (k + 1) a0) := by
 intro a0 k
 have ih0 := pomaderef07_Identity.mono_l k
 unfold pomaderef07_Identity.f
 repeat' first
   | (with_reducible exact ih0 _ _ _)
   | (with_reducible exact LeO.refl _)
   | (with_reducible exact LeO.none _)
   | (with_reducible refine LeO.ite ?_ ?_)
   | (with_reducible refine LeO.bind ?_ (fun _ => ?_))
   | exact ih0 _ _ _
   | exact LeO.none _
   | refine LeO.ite ?_ ?_
   | refine LeO.bind ?_ (fun _ => ?_)
set_option maxHeartbeats 8000000 in
set_option maxRecDepth 100000 in
theorem pomaderef07_Identity.calls (k : Nat) (a0 : Int) (r : List Int) (w : World) (h : pomaderef07_Identity.f k a0 = some r) :
  Calls Try.prog 28 #[.int .i64 a0] w fun e w' => ∃ v0_ : Value, e = .returned (v0_) ∧ Kd.R (Kd.int .i64) 3 w' w.heap.size (fun _ => True) v0_ r ∧ Below w.heap.size w w' := by
 have HB := Aside0.mk (Below.refl w.heap.size w)
 have H : (pomaderef07_Identity.l0 k a0 ([] : List Int) 0) = some r := h
 clear h
 have H' := Aside0.mk H
 clear H
 go_enter Try.func28, Try.ntmps28
 go_wp2
 go_loopg [3, 4] k (fun kq v3 v4 w' => ∃ (x3_1 : List Int) (x4_1 : Int), v4 = .int .i64 x4_1 ∧ Aside0 (pomaderef07_Identity.l0 kq a0 x3_1 x4_1 = some r) ∧ Aside0 (kq ≤ k) ∧ Aside0 (Kd.R (Kd.int .i64) 3 w' w.heap.size (fun _ => True) v3 x3_1) ∧ Aside0 (Below w.heap.size w w'))
 case atStart => exact ⟨(([] : List Int)), (0), (by first | rfl | (simp; done) | (simp [*]; done)), H', ⟨Nat.le_refl _⟩, ⟨by first | exact Kd.R_nil _ _ _ _ _ | exact Kd.N_nil _ _ _ _ _ | exact Kd.V_nil _ _ _ _ _ | exact Kd.Q_nil _ _ _ _ _ | exact Kd.S_nil _ _ _ _ _⟩, ⟨by repeat (first | (with_reducible first | exact HB.out | apply below_alloc | apply pw_below_drewN | apply below_drew1) | exact HB.out)⟩⟩
 case round =>
  clear H'
  obtain ⟨x3_1, x4_1, rfl, HA, HK1, HO_3, HB⟩ := hrel
  cases gk with
  | zero => exact absurd HA.out (by simp [pomaderef07_Identity.l0])
  | succ k1 =>
   have H := HA.out
   clear HA
   simp only [pomaderef07_Identity.l0] at H
   by_cases c2 : x4_1 < (wrap64 (2 * a0))
   ·rw [if_pos c2] at H
    have c2b0 : decide (x4_1 < (wrap64 (2 * a0))) = true := decide_eq_true c2
    clear c2
    by_cases c3 : (wrap64 (2 * a0)) = 0
    ·rw [if_pos c3] at H
     exact absurd H (by simp)
    ·rw [if_neg c3] at H
     have c3b0 : ((wrap64 (2 * a0)) == 0) = false := beq_eq_false_iff_ne.mpr c3
     have c3b1 : ((wrap64 (2 * a0)) != 0) = true := bne_iff_ne.mpr c3
     by_cases c4 : x3_1.length < 17592186044416
     ·rw [if_pos c4] at H
      have LMc4 := Aside0.mk c4
      clear c4
      obtain ⟨y351, hy351⟩ : ∃ y_ : List Int, y_ = (x3_1 ++ [Int.tmod (wrap64 (x4_1 + a0)) (wrap64 (2 * a0))]) := ⟨_, rfl⟩
      replace H : (pomaderef07_Identity.l0 k1 a0 y351 (wrap64 (x4_1 + 1))) = some r := by first | (rw [hy351]; with_reducible exact H) | (have H2_ := (Option.bind_some _ _).symm.trans H; rw [hy351]; with_reducible exact H2_) | (have H2_ := (Option.bind_some _ _).symm.trans H; with_reducible exact H2_) | with_reducible exact H | (rw [hy351]; exact H) | exact H
      have Ny351 := Aside0.mk hy351
      clear hy351
      have H' := Aside0.mk H
      clear H
      go_wp2_with (first | ((with_reducible refine gate_builtin (b := .append) (xs := #[.tmp 11, .tmp 18]) rfl ?_); at_builtin; refine Kd.R_append (Kd.int .i64) (w0 := w) w.heap.size rfl (.tmp 11) (.tmp 18) 22 3 (.int .i64 0) 8 rfl Try.underlying22 info3 rfl (by decide) (by omega) u3 x3_1 (Int.tmod (wrap64 (x4_1 + a0)) (wrap64 (2 * a0))) [.int .i64 (Int.tmod (wrap64 (x4_1 + a0)) (wrap64 (2 * a0)))] (fun _ => True) (fun _ => False) rfl rfl ?aP (fun _ hk => hk.elim) ?aF ?aO ?aB ?aS ?aL ?_; (case aP => exact rfl); (case aB => exact (by repeat (first | (with_reducible first | exact HB.out | apply below_alloc | apply pw_below_drewN | apply below_drew1) | exact HB.out))); (case aF => exact (fun _ _ => trivial)); (case aO => exact (by (with_reducible repeat (first | apply Kd.R_alloc | apply Kd.R_drewN | apply Kd.R_drew)); exact HO_3.out)); (case aS => exact (below_size (by repeat (first | (with_reducible first | exact HB.out | apply below_alloc | apply pw_below_drewN | apply below_drew1) | exact HB.out)))); (case aL => have := LMc4.out; omega); intro v352 w5 ho hb hg hat; rw [← Ny351.out] at ho; have n0_ := Aside0.mk (hb); have n1_ := Aside0.mk (ho); clear HB; clear HO_3; have HB := n0_; have HO353 := n1_; clear n0_ n1_; clear ho hb hg hat))
      go_roundg k1
      case measure => have := HK1.out; omega
      case rel => exact ⟨(y351), (wrap64 (x4_1 + 1)), (by first | rfl | (simp; done) | (simp [*]; done)), H', ⟨by have := HK1.out; omega⟩, ⟨by (with_reducible repeat (first | apply Kd.R_alloc | apply Kd.R_drewN | apply Kd.R_drew)); exact HO353.out⟩, ⟨by repeat (first | (with_reducible first | exact HB.out | apply below_alloc | apply pw_below_drewN | apply below_drew1) | exact HB.out)⟩⟩
     ·rw [if_neg c4] at H
      exact absurd H (by simp)
   ·rw [if_neg c2] at H
    have c2b0 : decide (x4_1 < (wrap64 (2 * a0))) = false := decide_eq_false c2
    clear c2
    obtain rfl := Option.some.inj H
    go_wp2
    go_ret
    exact ⟨_, by first | rfl | (simp [errW_none, errW_some] <;> rfl) | (simp [*, errW_none, errW_some] <;> rfl), by (with_reducible repeat (first | apply Kd.R_alloc | apply Kd.R_drewN | apply Kd.R_drew)); exact HO_3.out, by repeat (first | (with_reducible first | exact HB.out | apply below_alloc | apply pw_below_drewN | apply below_drew1) | exact HB.out)⟩
end Go.Proofs.Ytjfkompfkgjdaaa.PC
end
section
/- The identity, by the program and by the specification. -/
namespace Go.Proofs.Ytjfkompfkgjdaaa.L
open Go.RowKit Go.Proofs.Ytjfkompfkgjdaaa.PC Go.Proofs.YtjfkompfkgjdaaaW.PrintWords Go.Proofs.YtjfkompfkgjdaaaW.PrintLast Go.Proofs.Ytjfkompfkgjdaaa.G
/-- every point with the one across -/
def idf (n z : Nat) : Nat := if z < n then z + n else z - n
def idL (n : Nat) : List Int := (List.range (2 * n)).map (fun z => (idf n z : Int))
theorem idL_len (n : Nat) : (idL n).length = 2 * n := by simp [idL]
theorem idL_rd {n z : Nat} (h : z < 2 * n) : rd (idL n) (z : Int) = (idf n z : Int) := rd_range _ _ _ h
theorem idf_mat {n : Nat} : Mat n (idf n) := by
  intro z hz
  unfold idf
  by_cases c : z < n
  · rw [if_pos c, if_neg (by omega)]; omega
  · rw [if_neg c, if_pos (by omega)]; omega
theorem lm_of_fun {n : Nat} {l : List Int} {f : Nat → Nat} (hl : l.length = 2 * n) (h : ∀ z : Nat, z < 2 * n → rd l (z : Int) = (f z : Int)) (hf : Mat n f) : LM n l ∧ ∀ z, z < 2 * n → fn l z = f z := by
  have e : ∀ z, z < 2 * n → fn l z = f z := fun z hz => by
    show (rd l (z : Int)).toNat = _
    rw [h z hz, Int.toNat_natCast]
  exact ⟨⟨hl, fun z hz => by rw [h z hz, e z hz], mat_congr e hf⟩, e⟩
theorem idL_lm (n : Nat) : LM n (idL n) := (lm_of_fun (idL_len n) (fun z hz => idL_rd hz) idf_mat).1
theorem identity_l0 {n : Nat} (hn : n ≤ 1000) (d : Nat) : ∀ (j : Nat) (l : List Int), j + d = n → l.length = 2 * n → (∀ i : Nat, i < j → rd l (i : Int) = ((n + i : Nat) : Int) ∧ rd l ((n + i : Nat) : Int) = (i : Int)) → Ev (fun k => plait_identity.l0 k (n : Int) l (n : Int) (j : Int)) (idL n) := by
  induction d with
  | zero =>
    intro j l hj hl hr
    obtain rfl : j = n := by omega
    have e : l = idL j := by
      refine list_eq (by rw [idL_len, hl]) (fun z hz => ?_)
      rw [idL_rd (by omega)]
      unfold idf
      by_cases c : z < j
      · rw [if_pos c, (hr z c).1]; omega
      · rw [if_neg c]
        have := (hr (z - j) (by omega)).2
        rwa [show j + (z - j) = z by omega] at this
    rw [e]
    refine Ev.step (f := fun _ => some (idL j)) (fun k => ?_) (Ev.now _)
    simp only [plait_identity.l0]
    rw [if_neg (by omega)]
  | succ d ih =>
    intro j l hj hl hr
    have lo : n + j < (l.set j ((n + j : Nat) : Int)).length := by simp; omega
    refine Ev.step (fun k => ?_) (ih (j + 1) ((l.set j ((n + j : Nat) : Int)).set (n + j) (j : Int)) (by omega) (by simpa using hl) (fun i hi => ?_))
    · simp only [plait_identity.l0]
      rw [if_pos (by omega), if_pos (by omega), if_pos (by omega), pw64 (x := (n : Int) + (j : Int)) (by omega) (by omega), pw64 (x := (j : Int) + 1) (by omega) (by omega), if_pos (by omega), if_pos (by omega), Int.toNat_natCast, show ((n : Int) + (j : Int)).toNat = n + j by omega]
      rfl
    · rw [rd_set _ _ _ _ lo, rd_set _ _ _ _ (by omega), rd_set _ _ _ _ lo, rd_set _ _ _ _ (by omega)]
      by_cases c : i = j
      · subst c
        rw [if_neg (by omega), if_pos rfl, if_pos rfl]; exact ⟨rfl, rfl⟩
      · rw [if_neg (by omega), if_neg c, if_neg (by omega), if_neg (by omega)]
        exact hr i (by omega)
theorem identity_ev {n : Nat} (hn : n ≤ 1000) : Ev (fun k => plait_identity.f k (n : Int)) (idL n) := by
  refine Ev.congr (fun k => ?_) (identity_l0 hn n 0 (List.replicate (2 * n) 0) (by omega) (by simp) (fun i hi => by omega))
  unfold plait_identity.f
  have e : wrap64 (2 * (n : Int)) = ((2 * n : Nat) : Int) := by rw [pw64 (by omega) (by omega)]; omega
  rw [e, if_pos (by omega), if_pos (by omega), Int.toNat_natCast]
  rfl
theorem refidentity_l0 {n : Nat} (hn : n ≤ 1000) (d : Nat) : ∀ (j : Nat), j + d = 2 * n → Ev (fun k => pomaderef07_Identity.l0 k (n : Int) ((List.range j).map (fun z => (idf n z : Int))) (j : Int)) (idL n) := by
  have e2 : wrap64 (2 * (n : Int)) = ((2 * n : Nat) : Int) := by rw [pw64 (by omega) (by omega)]; omega
  induction d with
  | zero =>
    intro j hj
    obtain rfl : j = 2 * n := by omega
    refine Ev.step (f := fun _ => some (idL n)) (fun k => ?_) (Ev.now _)
    simp only [pomaderef07_Identity.l0]
    rw [e2, if_neg (by omega)]; rfl
  | succ d ih =>
    intro j hj
    refine Ev.step (fun k => ?_) (ih (j + 1) (by omega))
    simp only [pomaderef07_Identity.l0]
    have e3 : Int.tmod ((j : Int) + (n : Int)) ((2 * n : Nat) : Int) = (idf n j : Int) := by
      rw [Int.tmod_eq_emod_of_nonneg (by omega)]
      unfold idf
      by_cases c : j < n
      · rw [if_pos c, Int.emod_eq_of_lt (by omega) (by omega)]; omega
      · rw [if_neg c, show (j : Int) + (n : Int) = ((j - n : Nat) : Int) + ((2 * n : Nat) : Int) * 1 by omega, Int.add_mul_emod_self_left, Int.emod_eq_of_lt (by omega) (by omega)]
    rw [e2, if_pos (by omega), if_neg (by omega), if_pos (by simp; omega), pw64 (x := (j : Int) + (n : Int)) (by omega) (by omega), pw64 (by omega) (by omega), e3, List.range_succ, List.map_append]
    rfl
theorem refidentity_ev {n : Nat} (hn : n ≤ 1000) : Ev (fun k => pomaderef07_Identity.f k (n : Int)) (idL n) := Ev.congr (fun k => rfl) (refidentity_l0 hn (2 * n) 0 (by omega))
end Go.Proofs.Ytjfkompfkgjdaaa.L
end
section
/- Three matchings on top of one another; other names: plain. -/
namespace Go.Proofs.Ytjfkompfkgjdaaa.G
theorem prs_map (F f g : Nat → Nat) (k : Nat) : (prs f g k).map (fun p => (F p.1, F p.2)) = prs (fun i => F (f i)) (fun i => F (g i)) k := by
  induction k with
  | zero => rfl
  | succ k ih => simp only [prs, List.map_cons, ih]
theorem prs_congr {f g f' g' : Nat → Nat} (k : Nat) (h : ∀ i, i < k → f i = f' i ∧ g i = g' i) : prs f g k = prs f' g' k := by
  induction k with
  | zero => rfl
  | succ k ih =>
    have := h k (by omega)
    simp only [prs, ih (fun i hi => h i (by omega)), this.1, this.2]
theorem prs_mem {f g : Nat → Nat} {k : Nat} {p : Nat × Nat} (h : p ∈ prs f g k) : ∃ i, i < k ∧ p = (f i, g i) := by
  induction k with
  | zero => cases h
  | succ k ih =>
    rcases List.mem_cons.1 h with rfl | h
    · exact ⟨k, by omega, rfl⟩
    · obtain ⟨i, a, b⟩ := ih h; exact ⟨i, by omega, b⟩
theorem prs_flip {f g : Nat → Nat} (k : Nat) : ∀ σ : Nat → Nat, Inv2 σ → OK σ (prs f g k) → glue (prs g f k) σ = glue (prs f g k) σ := by
  induction k with
  | zero => intro σ _ _; rfl
  | succ k ih =>
    intro σ hi h
    obtain ⟨h0, h1, h2, h3, h4, h5⟩ := h
    have e := con_swap (f k) (g k) hi h0
    simp only [prs, glue]
    rw [← e.1, ← e.2, ih _ (con_inv hi h1 h2 h0) (h5.con hi h0 h3 h4)]
theorem OK.app {σ : Nat → Nat} {l l' : List (Nat × Nat)} (h : OK σ l) (h' : OK σ l') (hd : ∀ z, pts l z → ¬ pts l' z) : OK σ (l ++ l') := by
  induction l with
  | nil => exact h'
  | cons p l ih =>
    obtain ⟨x, y⟩ := p
    obtain ⟨h0, h1, h2, h3, h4, h5⟩ := h
    have pa : ∀ z, pts (l ++ l') z → pts l z ∨ pts l' z := fun z ⟨p, m, e⟩ => (List.mem_append.1 m).elim (fun m => .inl ⟨p, m, e⟩) (fun m => .inr ⟨p, m, e⟩)
    refine ⟨h0, h1, h2, fun q => ?_, fun q => ?_, ih h5 (fun z hz => hd z ((pts_cons _ _ _ _).2 (.inr (.inr hz))))⟩
    · exact (pa _ q).elim h3 (hd x ((pts_cons _ _ _ _).2 (.inl rfl)))
    · exact (pa _ q).elim h4 (hd y ((pts_cons _ _ _ _).2 (.inr (.inl rfl))))
theorem glue_ok (l l' : List (Nat × Nat)) : ∀ σ : Nat → Nat, Inv2 σ → OK σ (l ++ l') → OK (glue l σ).1 l' := by
  induction l with
  | nil => intro σ _ h; exact h
  | cons p l ih =>
    obtain ⟨x, y⟩ := p
    intro σ hi h
    obtain ⟨h0, h1, h2, h3, h4, h5⟩ := h
    exact ih _ (con_inv hi h1 h2 h0) (OK.con hi h0 h3 h4 h5)
/-- a product inside of something greater -/
theorem glue_sub {n : Nat} {a b F σ : Nat → Nat} (ha : Mat n a) (hb : Mat n b) (hF : ∀ u v, u < 4 * n → v < 4 * n → F u = F v → u = v) (h : Emb (4 * n) F (jn n a b) σ) {p : Nat} (hp : p < 2 * n) :
    (glue (prs (fun i => F (n + i)) (fun i => F (2 * n + i)) n) σ).1 (F (emb n p)) = F (emb n (prod n a b p)) := by
  have g := glue_emb hF (mids n) h (fun p hp => by obtain ⟨i, hi, rfl⟩ := prs_mem hp; simp only [up, dn]; omega)
  have e : (mids n).map (fun p => (F p.1, F p.2)) = prs (fun i => F (n + i)) (fun i => F (2 * n + i)) n := prs_map _ _ _ _
  rw [e] at g
  have := (g.1 (emb n p) (emb_out hp).2).2
  rw [this, (prod_emb ha hb hp).1]
theorem glue_sub2 {n : Nat} {a b F σ : Nat → Nat} (hF : ∀ u v, u < 4 * n → v < 4 * n → F u = F v → u = v) (h : Emb (4 * n) F (jn n a b) σ) :
    (glue (prs (fun i => F (n + i)) (fun i => F (2 * n + i)) n) σ).2 = lops n a b := by
  have g := glue_emb hF (mids n) h (fun p hp => by obtain ⟨i, hi, rfl⟩ := prs_mem hp; simp only [up, dn]; omega)
  have e : (mids n).map (fun p => (F p.1, F p.2)) = prs (fun i => F (n + i)) (fun i => F (2 * n + i)) n := prs_map _ _ _ _
  rw [e] at g
  exact g.2
/-! ### three on top of one another -/
def j3 (n : Nat) (a b c : Nat → Nat) (z : Nat) : Nat := if z < 2 * n then a z else if z < 4 * n then 2 * n + b (z - 2 * n) else if z < 6 * n then 4 * n + c (z - 4 * n) else z
theorem j3_a {n : Nat} {a b c : Nat → Nat} {z : Nat} (h : z < 2 * n) : j3 n a b c z = a z := by unfold j3; rw [if_pos h]
theorem j3_b {n : Nat} {a b c : Nat → Nat} {z : Nat} (h : z < 2 * n) : j3 n a b c (2 * n + z) = 2 * n + b z := by unfold j3; rw [if_neg (by omega), if_pos (by omega), Nat.add_sub_cancel_left]
theorem j3_c {n : Nat} {a b c : Nat → Nat} {z : Nat} (h : z < 2 * n) : j3 n a b c (4 * n + z) = 4 * n + c z := by unfold j3; rw [if_neg (by omega), if_neg (by omega), if_pos (by omega), Nat.add_sub_cancel_left]
theorem j3_off {n : Nat} {a b c : Nat → Nat} {z : Nat} (h : 6 * n ≤ z) : j3 n a b c z = z := by unfold j3; rw [if_neg (by omega), if_neg (by omega), if_neg (by omega)]
theorem j3_cases {n : Nat} (z : Nat) : z < 2 * n ∨ (∃ y, y < 2 * n ∧ z = 2 * n + y) ∨ (∃ y, y < 2 * n ∧ z = 4 * n + y) ∨ 6 * n ≤ z := by
  by_cases c1 : z < 2 * n
  · exact .inl c1
  · by_cases c2 : z < 4 * n
    · exact .inr (.inl ⟨z - 2 * n, by omega, by omega⟩)
    · by_cases c3 : z < 6 * n
      · exact .inr (.inr (.inl ⟨z - 4 * n, by omega, by omega⟩))
      · exact .inr (.inr (.inr (by omega)))
theorem j3_inv {n : Nat} {a b c : Nat → Nat} (ha : Mat n a) (hb : Mat n b) (hc : Mat n c) : Inv2 (j3 n a b c) := by
  intro z
  rcases @j3_cases n z with h | ⟨y, h, rfl⟩ | ⟨y, h, rfl⟩ | h
  · rw [j3_a h, j3_a (ha z h).1, (ha z h).2.2]
  · rw [j3_b h, j3_b (hb y h).1, (hb y h).2.2]
  · rw [j3_c h, j3_c (hc y h).1, (hc y h).2.2]
  · rw [j3_off h, j3_off h]
theorem j3_alive {n : Nat} {a b c : Nat → Nat} (ha : Mat n a) (hb : Mat n b) (hc : Mat n c) {z : Nat} (hz : z < 6 * n) : j3 n a b c z ≠ z := by
  rcases @j3_cases n z with h | ⟨y, h, rfl⟩ | ⟨y, h, rfl⟩ | h
  · rw [j3_a h]; exact (ha z h).2.1
  · rw [j3_b h]; intro e; exact (hb y h).2.1 (by omega)
  · rw [j3_c h]; intro e; exact (hc y h).2.1 (by omega)
  · omega
theorem assoc {n : Nat} {a b c : Nat → Nat} (ha : Mat n a) (hb : Mat n b) (hc : Mat n c) :
    (∀ p, p < 2 * n → prod n (prod n a b) c p = prod n a (prod n b c) p) ∧ lops n (prod n a b) c + lops n a b = lops n a (prod n b c) + lops n b c := by
  have hab := prod_mat ha hb
  have hbc := prod_mat hb hc
  have hi := j3_inv ha hb hc
  let P := prs (fun i => n + i) (fun i => 2 * n + i) n
  let Q := prs (fun i => 3 * n + i) (fun i => 4 * n + i) n
  have okP : OK (j3 n a b c) P := prs_ok n (fun i j _ _ => by omega) (fun i hi => ⟨j3_alive ha hb hc (by omega), j3_alive ha hb hc (by omega)⟩)
  have okQ : OK (j3 n a b c) Q := prs_ok n (fun i j _ _ => by omega) (fun i hi => ⟨j3_alive ha hb hc (by omega), j3_alive ha hb hc (by omega)⟩)
  have ptP : ∀ z, pts P z → n ≤ z ∧ z < 3 * n := fun z h => by obtain ⟨i, a, b⟩ := (pts_prs _ _ _ _).1 h; omega
  have ptQ : ∀ z, pts Q z → 3 * n ≤ z ∧ z < 5 * n := fun z h => by obtain ⟨i, a, b⟩ := (pts_prs _ _ _ _).1 h; omega
  have okPQ : OK (j3 n a b c) (P ++ Q) := okP.app okQ (fun z h1 h2 => by have := ptP z h1; have := ptQ z h2; omega)
  obtain ⟨same, okQP⟩ := glue_perm (List.perm_append_comm (l₁ := P) (l₂ := Q)) _ hi okPQ
  rw [glue_app, glue_app] at same
  -- first the upper two
  have eP : Emb (4 * n) (fun z => z) (jn n a b) (j3 n a b c) := fun z hz => ⟨jn_lt ha hb hz, by
    rcases @jn_cases n z with h | ⟨y, h, rfl⟩ | h
    · show j3 n a b c z = jn n a b z
      rw [j3_a h, jn_lo h]
    · show j3 n a b c (2 * n + y) = jn n a b (2 * n + y)
      rw [j3_b h, jn_hi h]
    · omega⟩
  have p1 : ∀ p, p < 2 * n → (glue P (j3 n a b c)).1 (emb n p) = emb n (prod n a b p) := fun p hp => glue_sub (F := fun z => z) ha hb (fun u v _ _ e => e) eP hp
  have p2 : (glue P (j3 n a b c)).2 = lops n a b := glue_sub2 (F := fun z => z) (fun u v _ _ e => e) eP
  have p3 : ∀ y, y < 2 * n → (glue P (j3 n a b c)).1 (4 * n + y) = 4 * n + c y := fun y hy => by
    rw [glue_off (fun z => 4 * n ≤ z ∧ z < 6 * n) P (fun z hz => ?_) hi okP (fun p hp => ?_) (4 * n + y) (by omega), j3_c hy]
    · obtain ⟨x, rfl⟩ : ∃ x, z = 4 * n + x := ⟨z - 4 * n, by omega⟩
      rw [j3_c (by omega)]
      have := (hc x (by omega)).1
      omega
    · obtain ⟨i, h, rfl⟩ := prs_mem hp
      dsimp only
      omega
  let F : Nat → Nat := fun z => if z < 2 * n then emb n z else 2 * n + z
  have hF : ∀ u v, u < 4 * n → v < 4 * n → F u = F v → u = v := by
    intro u v hu hv e
    simp only [F, emb] at e
    split at e <;> split at e <;> (try split at e) <;> (try split at e) <;> omega
  have eF : Emb (4 * n) F (jn n (prod n a b) c) (glue P (j3 n a b c)).1 := fun z hz => ⟨jn_lt hab hc hz, by
    rcases @jn_cases n z with h | ⟨y, h, rfl⟩ | h
    · have := (hab z h).1
      simp only [F]
      rw [jn_lo h, if_pos h, if_pos this]
      exact p1 z h
    · simp only [F]
      rw [jn_hi h, if_neg (by omega), if_neg (by omega), show 2 * n + (2 * n + y) = 4 * n + y by omega, p3 y h]
      omega
    · omega⟩
  have qF : prs (fun i => F (n + i)) (fun i => F (2 * n + i)) n = Q := prs_congr n (fun i hi => by
    simp only [F, emb]
    rw [if_pos (by omega), if_neg (by omega), if_neg (by omega)]
    omega)
  have f1 : ∀ p, p < 2 * n → (glue Q (glue P (j3 n a b c)).1).1 (F (emb n p)) = F (emb n (prod n (prod n a b) c p)) := fun p hp => by
    rw [← qF]; exact glue_sub hab hc hF eF hp
  have f2 : (glue Q (glue P (j3 n a b c)).1).2 = lops n (prod n a b) c := by
    rw [← qF]; exact glue_sub2 hF eF
  -- first the lower two
  let G : Nat → Nat := fun z => 2 * n + z
  have eQ : Emb (4 * n) G (jn n b c) (j3 n a b c) := fun z hz => ⟨jn_lt hb hc hz, by
    rcases @jn_cases n z with h | ⟨y, h, rfl⟩ | h
    · simp only [G]; rw [j3_b h, jn_lo h]
    · simp only [G]; rw [show 2 * n + (2 * n + y) = 4 * n + y by omega, j3_c h, jn_hi h]; omega
    · omega⟩
  have gQ : prs (fun i => G (n + i)) (fun i => G (2 * n + i)) n = Q := prs_congr n (fun i hi => by simp only [G]; omega)
  have hG : ∀ u v, u < 4 * n → v < 4 * n → G u = G v → u = v := fun u v _ _ e => by simp only [G] at e; omega
  have q1 : ∀ p, p < 2 * n → (glue Q (j3 n a b c)).1 (2 * n + emb n p) = 2 * n + emb n (prod n b c p) := fun p hp => by
    rw [← gQ]; exact glue_sub hb hc hG eQ hp
  have q2 : (glue Q (j3 n a b c)).2 = lops n b c := by rw [← gQ]; exact glue_sub2 hG eQ
  have q3 : ∀ y, y < 2 * n → (glue Q (j3 n a b c)).1 y = a y := fun y hy => by
    rw [glue_off (fun z => z < 2 * n) Q (fun z hz => ?_) hi okQ (fun p hp => ?_) y hy, j3_a hy]
    · rw [j3_a hz]; exact (ha z hz).1
    · obtain ⟨i, h, rfl⟩ := prs_mem hp
      dsimp only
      omega
  let H : Nat → Nat := fun z => if z < 2 * n then z else 2 * n + emb n (z - 2 * n)
  have hH : ∀ u v, u < 4 * n → v < 4 * n → H u = H v → u = v := by
    intro u v hu hv e
    simp only [H, emb] at e
    split at e <;> split at e <;> (try split at e) <;> (try split at e) <;> omega
  have eH : Emb (4 * n) H (jn n a (prod n b c)) (glue Q (j3 n a b c)).1 := fun z hz => ⟨jn_lt ha hbc hz, by
    rcases @jn_cases n z with h | ⟨y, h, rfl⟩ | h
    · have := (ha z h).1
      simp only [H]
      rw [jn_lo h, if_pos h, if_pos this]
      exact q3 z h
    · have := (hbc y h).1
      simp only [H]
      rw [jn_hi h, if_neg (by omega), if_neg (by omega), Nat.add_sub_cancel_left, Nat.add_sub_cancel_left]
      exact q1 y h
    · omega⟩
  have pH : prs (fun i => H (n + i)) (fun i => H (2 * n + i)) n = P := prs_congr n (fun i hi => by
    simp only [H, emb]
    rw [if_pos (by omega), if_neg (by omega), Nat.add_sub_cancel_left, if_pos hi]
    exact ⟨rfl, rfl⟩)
  have h1 : ∀ p, p < 2 * n → (glue P (glue Q (j3 n a b c)).1).1 (H (emb n p)) = H (emb n (prod n a (prod n b c) p)) := fun p hp => by
    rw [← pH]; exact glue_sub ha hbc hH eH hp
  have h2 : (glue P (glue Q (j3 n a b c)).1).2 = lops n a (prod n b c) := by
    rw [← pH]; exact glue_sub2 hH eH
  have FH : ∀ p, p < 2 * n → F (emb n p) = H (emb n p) ∧ emb n p < 4 * n := by
    intro p hp
    simp only [F, H, emb]
    by_cases c1 : p < n
    · rw [if_pos c1, if_pos (by omega), if_pos c1, if_pos (by omega)]; omega
    · rw [if_neg c1, if_neg (by omega), if_neg (by omega), if_neg (by omega)]; omega
  constructor
  · intro p hp
    have s1 := congrArg Prod.fst same
    dsimp only at s1
    have e := f1 p hp
    rw [s1, (FH p hp).1, h1 p hp] at e
    have m1 := (prod_mat ha hbc p hp).1
    have m2 := (prod_mat hab hc p hp).1
    rw [← (FH _ m1).1] at e
    have := hF _ _ (FH _ m1).2 (FH _ m2).2 e
    have := congrArg (une n) this
    rw [une_emb, une_emb] at this
    exact this.symm
  · have s2 := congrArg Prod.snd same
    dsimp only at s2
    rw [f2, p2, h2, q2] at s2
    exact s2
end Go.Proofs.Ytjfkompfkgjdaaa.G
end
section
/- The identity in products; a product of matchings without crossings has none: plain. -/
namespace Go.Proofs.Ytjfkompfkgjdaaa.G
/-! ### the identity -/
def idf (n z : Nat) : Nat := if z < n then z + n else z - n
theorem idf_mat {n : Nat} : Mat n (idf n) := by
  intro z hz
  unfold idf
  by_cases c : z < n
  · rw [if_pos c, if_neg (by omega)]; omega
  · rw [if_neg c, if_pos (by omega)]; omega
theorem idf_lo {n z : Nat} (h : z < n) : idf n z = n + z := by unfold idf; rw [if_pos h]; omega
theorem idf_hi {n z : Nat} : idf n (n + z) = z := by unfold idf; rw [if_neg (by omega)]; omega
theorem prod_id {n : Nat} {a : Nat → Nat} (ha : Mat n a) {p : Nat} (hp : p < 2 * n) : prod n a (idf n) p = a p := by
  have hi := @idf_mat n
  have out : ∀ z, z < n ∨ 3 * n ≤ z → ¬ pts (mids n) z := fun z h e => by have := mids_pts.1 e; omega
  have inn : ∀ z, n ≤ z → z < 3 * n → pts (mids n) z := fun z h1 h2 => mids_pts.2 ⟨h1, h2⟩
  -- from a point of the upper one
  have low : ∀ z, z < 2 * n → ∃ q, Path (jn n a (idf n)) (mids n) z q ∧ une n q = a z := by
    intro z hz
    have h1 := (ha z hz).1
    have e : jn n a (idf n) z = a z := jn_lo hz
    by_cases c : a z < n
    · exact ⟨a z, e ▸ .out z (by rw [e]; exact out _ (.inl c)), by unfold une; rw [if_pos c]⟩
    · obtain ⟨m, hm⟩ : ∃ m, a z = n + m := ⟨a z - n, by omega⟩
      have e2 : jn n a (idf n) (2 * n + m) = 3 * n + m := by rw [jn_hi (by omega), idf_lo (by omega)]; omega
      refine ⟨3 * n + m, .via z _ (by rw [e]; exact inn _ (by omega) (by omega)) ?_, by unfold une; rw [if_neg (by omega)]; omega⟩
      rw [e, hm, (tau_up ha hi (by omega)).1, ← e2]
      exact .out _ (by rw [e2]; exact out _ (.inr (by omega)))
  by_cases c : p < n
  · obtain ⟨q, h1, h2⟩ := low p hp
    rw [← prod_path ha hi hp (by unfold emb; rw [if_pos c]; exact h1), h2]
  · obtain ⟨m, rfl⟩ : ∃ m, p = n + m := ⟨p - n, by omega⟩
    obtain ⟨q, h1, h2⟩ := low (n + m) hp
    have e : jn n a (idf n) (2 * n + (n + m)) = 2 * n + m := by rw [jn_hi (by omega), idf_hi]
    have h3 : Path (jn n a (idf n)) (mids n) (emb n (n + m)) q := by
      have : emb n (n + m) = 2 * n + (n + m) := by unfold emb; rw [if_neg (by omega)]; omega
      rw [this]
      refine .via _ _ (by rw [e]; exact inn _ (by omega) (by omega)) ?_
      rw [e, (tau_up ha hi (by omega)).2]
      exact h1
    rw [← prod_path ha hi hp h3, h2]
theorem id_prod {n : Nat} {a : Nat → Nat} (ha : Mat n a) {p : Nat} (hp : p < 2 * n) : prod n (idf n) a p = a p := by
  have hi := @idf_mat n
  have out : ∀ z, z < n ∨ 3 * n ≤ z → ¬ pts (mids n) z := fun z h e => by have := mids_pts.1 e; omega
  have inn : ∀ z, n ≤ z → z < 3 * n → pts (mids n) z := fun z h1 h2 => mids_pts.2 ⟨h1, h2⟩
  have low : ∀ z, z < 2 * n → ∃ q, Path (jn n (idf n) a) (mids n) (2 * n + z) q ∧ une n q = a z := by
    intro z hz
    have h1 := (ha z hz).1
    have e : jn n (idf n) a (2 * n + z) = 2 * n + a z := jn_hi hz
    by_cases c : a z < n
    · have e2 : jn n (idf n) a (n + a z) = a z := by rw [jn_lo (by omega), idf_hi]
      refine ⟨a z, .via _ _ (by rw [e]; exact inn _ (by omega) (by omega)) ?_, by unfold une; rw [if_pos c]⟩
      rw [e, (tau_up hi ha c).2]
      have := Path.out (σ := jn n (idf n) a) (l := mids n) (n + a z) (by rw [e2]; exact out _ (.inl c))
      rwa [e2] at this
    · have := Path.out (σ := jn n (idf n) a) (l := mids n) (2 * n + z) (by rw [e]; exact out _ (.inr (by omega)))
      rw [e] at this
      exact ⟨_, this, by unfold une; rw [if_neg (by omega)]; omega⟩
  by_cases c : p < n
  · obtain ⟨q, h1, h2⟩ := low p hp
    have e : jn n (idf n) a p = n + p := by rw [jn_lo (by omega), idf_lo c]
    have h3 : Path (jn n (idf n) a) (mids n) (emb n p) q := by
      have : emb n p = p := by unfold emb; rw [if_pos c]
      rw [this]
      refine .via _ _ (by rw [e]; exact inn _ (by omega) (by omega)) ?_
      rw [e, (tau_up hi ha c).1]
      exact h1
    rw [← prod_path hi ha hp h3, h2]
  · obtain ⟨q, h1, h2⟩ := low p hp
    rw [← prod_path hi ha hp (by unfold emb; rw [if_neg c, Nat.add_comm]; exact h1), h2]
theorem cntP_none {P : Nat → Prop} (k : Nat) (h : ∀ i, i < k → ¬ P i) : cntP P k = 0 := by
  induction k with
  | zero => rfl
  | succ k ih => simp only [cntP]; rw [ih (fun i hi => h i (by omega)), if_neg (h k (by omega))]
theorem lops_id {n : Nat} {a : Nat → Nat} (ha : Mat n a) : lops n a (idf n) = 0 ∧ lops n (idf n) a = 0 := by
  have hi := @idf_mat n
  constructor
  · rw [lops_fst ha hi]
    refine cntP_none n (fun m hm h => ?_)
    have := h.1.2 (3 * n + m) ?_
    · have := mids_pts.1 this; omega
    · have c := Conn.s _ (Conn.t (σ := jn n a (idf n)) (τ := tau (mids n)) (x := n + m) _ .refl)
      rw [(tau_up ha hi hm).1, jn_hi (by omega), idf_lo hm] at c
      rwa [show 3 * n + m = 2 * n + (n + m) by omega]
  · rw [lops_fst hi ha]
    refine cntP_none n (fun m hm h => ?_)
    have := h.1.2 m ?_
    · have := mids_pts.1 this; omega
    · have c := Conn.s (σ := jn n (idf n) a) (τ := tau (mids n)) (x := n + m) _ .refl
      rwa [jn_lo (by omega), idf_hi] at c
/-! ### a product of diagrams without crossings has none -/
def bo (n i : Nat) : Nat := if i < n then i else 3 * n - 1 - i
def NCf (n : Nat) (a : Nat → Nat) : Prop := ∀ i k, i < 2 * n → k < 2 * n → ¬ (bo n i < bo n k ∧ bo n k < bo n (a i) ∧ bo n (a i) < bo n (a k))
end Go.Proofs.Ytjfkompfkgjdaaa.G
end
section
/- Products of diagrams are diagrams; three in a row; the identity. -/
namespace Go.Proofs.Ytjfkompfkgjdaaa.L
open Go.RowKit Go.Proofs.Ytjfkompfkgjdaaa.PC Go.Proofs.YtjfkompfkgjdaaaW.PrintWords Go.Proofs.YtjfkompfkgjdaaaW.PrintLast Go.Proofs.Ytjfkompfkgjdaaa.G
theorem Ev.det {α : Type} {g : Nat → Option α} {r s : α} (h : Ev g r) (k : Ev g s) : r = s := by
  obtain ⟨K, h⟩ := h
  obtain ⟨L, k⟩ := k
  have a := h (max K L) (Nat.le_max_left ..)
  have b := k (max K L) (Nat.le_max_right ..)
  rw [a] at b
  exact Option.some.inj b
theorem dia_ref {n : Nat} {l : List Int} (h : Dia n l) : Ev (fun k => pomaderef07_Diagram.f k l) 0 := by
  have hl := h.lm.len
  have hn := h.lim
  refine dia_even h.pos hn hl (dia_l0_miss (by omega) (fun y hy => h.lm.good (by omega)) (dia_l1_miss (by omega) h.lm (crs_nc.1 h.nc) (2 * n) 0 (by omega)) l.length 0 (by omega))
theorem dia_yes {n : Nat} {l : List Int} (h : Dia n l) : Ev (fun k => plait_of.f k l) 0 ∧ Ev (fun k => pomaderef07_Diagram.f k l) 0 ∧ Ev (fun k => plait_diagram_arches.f k l) (strOfNums (brk n l), true) := by
  obtain ⟨e, h1, h2, h3⟩ := dia_both l
  have e0 := Ev.det h2 (dia_ref h)
  subst e0
  rcases h3 with c | c | ⟨_, m, d, h3⟩
  · omega
  · omega
  · obtain rfl := h.two d
    exact ⟨h1, h2, h3⟩
theorem dia_of {l : List Int} (h : Ev (fun k => pomaderef07_Diagram.f k l) 0) : ∃ n, Dia n l := by
  obtain ⟨e, h1, h2, h3⟩ := dia_both l
  have e0 := Ev.det h2 h
  subst e0
  rcases h3 with c | c | ⟨_, m, d, h3⟩
  · omega
  · omega
  · exact ⟨m, d⟩
theorem nc_iff {n : Nat} {l : List Int} : NCD (2 * n) (Db n l) ↔ NCf n (fn l) := crs_nc
theorem ncf_congr {n : Nat} {a b : Nat → Nat} (h : ∀ z, z < 2 * n → a z = b z) (hb : NCf n b) : NCf n a := by
  intro i k hi hk
  rw [h i hi, h k hk]
  exact hb i k hi hk
/-! ### the product depends on the points of the matchings alone -/
theorem jn_congr {n : Nat} {a a' b b' : Nat → Nat} (ha : ∀ z, z < 2 * n → a z = a' z) (hb : ∀ z, z < 2 * n → b z = b' z) : jn n a b = jn n a' b' := by
  funext z
  unfold jn
  by_cases c : z < 2 * n
  · rw [if_pos c, if_pos c, ha z c]
  · rw [if_neg c, if_neg c]
    by_cases d : z < 4 * n
    · rw [if_pos d, if_pos d, hb _ (by omega)]
    · rw [if_neg d, if_neg d]
theorem prod_congr {n : Nat} {a a' b b' : Nat → Nat} (ha : ∀ z, z < 2 * n → a z = a' z) (hb : ∀ z, z < 2 * n → b z = b' z) : prod n a b = prod n a' b' ∧ lops n a b = lops n a' b' := by
  unfold prod lops
  rw [jn_congr ha hb]
  exact ⟨rfl, rfl⟩
theorem lm_eq {n : Nat} {a b : List Int} (ha : LM n a) (hb : LM n b) (h : ∀ z, z < 2 * n → fn a z = fn b z) : a = b :=
  list_eq (by rw [ha.len, hb.len]) (fun z hz => by have := ha.len; rw [ha.nn z (by omega), hb.nn z (by omega), h z (by omega)])
theorem prodL_assoc {n : Nat} {a b c : List Int} (ha : LM n a) (hb : LM n b) (hc : LM n c) : prodL n (prodL n a b) c = prodL n a (prodL n b c) ∧
    lops n (fn (prodL n a b)) (fn c) + lops n (fn a) (fn b) = lops n (fn a) (fn (prodL n b c)) + lops n (fn b) (fn c) := by
  have h := assoc ha.mat hb.mat hc.mat
  have e1 := prod_congr (n := n) (a := fn (prodL n a b)) (a' := prod n (fn a) (fn b)) (b := fn c) (b' := fn c) (fun z hz => prodL_fn hz) (fun _ _ => rfl)
  have e2 := prod_congr (n := n) (a := fn a) (a' := fn a) (b := fn (prodL n b c)) (b' := prod n (fn b) (fn c)) (fun _ _ => rfl) (fun z hz => prodL_fn hz)
  refine ⟨lm_eq (prodL_lm (prodL_lm ha hb) hc) (prodL_lm ha (prodL_lm hb hc)) (fun z hz => ?_), ?_⟩
  · rw [prodL_fn hz, prodL_fn hz, e1.1, e2.1]; exact h.1 z hz
  · rw [e1.2, e2.2]; exact h.2
theorem idL_fn {n z : Nat} (h : z < 2 * n) : fn (idL n) z = G.idf n z := by
  show (rd (idL n) (z : Int)).toNat = _
  rw [idL_rd h, Int.toNat_natCast]; rfl
theorem prodL_id {n : Nat} {a : List Int} (ha : LM n a) : prodL n a (idL n) = a ∧ prodL n (idL n) a = a ∧ lops n (fn a) (fn (idL n)) = 0 ∧ lops n (fn (idL n)) (fn a) = 0 := by
  have e1 := prod_congr (n := n) (a := fn a) (a' := fn a) (b := fn (idL n)) (b' := G.idf n) (fun _ _ => rfl) (fun z hz => idL_fn hz)
  have e2 := prod_congr (n := n) (a := fn (idL n)) (a' := G.idf n) (b := fn a) (b' := fn a) (fun z hz => idL_fn hz) (fun _ _ => rfl)
  refine ⟨lm_eq (prodL_lm ha (idL_lm n)) ha (fun z hz => ?_), lm_eq (prodL_lm (idL_lm n) ha) ha (fun z hz => ?_), ?_, ?_⟩
  · rw [prodL_fn hz, e1.1]; exact prod_id ha.mat hz
  · rw [prodL_fn hz, e2.1]; exact id_prod ha.mat hz
  · rw [e1.2]; exact (lops_id ha.mat).1
  · rw [e2.2]; exact (lops_id ha.mat).2
end Go.Proofs.Ytjfkompfkgjdaaa.L
end
