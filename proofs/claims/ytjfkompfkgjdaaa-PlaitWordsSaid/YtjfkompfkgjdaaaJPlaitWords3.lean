/- Parts of the proof of LawPlaitWords, one behind the other: PCg3 PCf56 PCf57 PCf84 PCg8 PCg7 HXRow HCap. -/
import Derived.ArgAppend
import Derived.Test.YtjfkompfkgjdaaaJPlaitWords2
section
namespace Go.Proofs.Ytjfkompfkgjdaaa.PC
open Go.RowKit Go.Proofs.YtjfkompfkgjdaaaW.PrintWords Go.Proofs.YtjfkompfkgjdaaaW.PrintLast Go.Proofs.YtjfkompfkgjdaaaW.PrintMore
attribute [local go_sem] max2_int min2_int max_two min_two max_three min_three max_four min_four   -- for this text's walks alone
set_option linter.unusedVariables false
set_option linter.unusedSimpArgs false
/-! ### pomaderef07_border: function 53 -/
def pomaderef07_border.f (a0 : Int) (a1 : Int) : Option (Int) := if a1 < a0 then (some a1) else (some (wrap64 ((wrap64 ((wrap64 (3 * a0)) - 1)) - a1)))
set_option maxHeartbeats 8000000 in
set_option maxRecDepth 100000 in
theorem pomaderef07_border.calls (a0 : Int) (a1 : Int) (r : Int) (w : World) (h : pomaderef07_border.f a0 a1 = some r) :
  Calls Try.prog 53 #[.int .i64 a0, .int .i64 a1] w fun e w' => e = .returned (.int .i64 r) ∧ Drawn0 w w' := by
 have H : (if a1 < a0 then (some a1) else (some (wrap64 ((wrap64 ((wrap64 (3 * a0)) - 1)) - a1)))) = some r := h
 clear h
 by_cases c3 : a1 < a0
 ·rw [if_pos c3] at H
  have c3b0 : decide (a1 < a0) = true := decide_eq_true c3
  clear c3
  obtain rfl := Option.some.inj H
  go_enter Try.func53, Try.ntmps53
  go_wp2
  go_ret
  exact ⟨by first | rfl | (simp; done) | (simp [*]; done), by repeat (first | exact Drawn0.refl _ | apply Drawn0.step)⟩
 ·rw [if_neg c3] at H
  have c3b0 : decide (a1 < a0) = false := decide_eq_false c3
  clear c3
  obtain rfl := Option.some.inj H
  go_enter Try.func53, Try.ntmps53
  go_wp2
  go_ret
  exact ⟨by first | rfl | (simp; done) | (simp [*]; done), by repeat (first | exact Drawn0.refl _ | apply Drawn0.step)⟩
/-! ### pomaderef07_Diagram: function 19 -/
mutual
def pomaderef07_Diagram.j0 : Nat → List Int → Int → Bool → Option (Int)
 | 0, _, _, _ => none
 | k + 1, x0, x3, x24 => if x24 = true then (some 2) else (pomaderef07_Diagram.l0 k x0 x3 0)
def pomaderef07_Diagram.l0 : Nat → List Int → Int → Int → Option (Int)
 | 0, _, _, _ => none
 | k + 1, x0, x3, x4 => if x4 < (x0.length : Int) then (if 0 ≤ x4 then (if (rd x0 x4) < 0 then (some 2) else (if (rd x0 x4) ≥ (x0.length : Int) then (some 2) else (if (rd x0 x4) = x4 then (some 2) else (if 0 ≤ (rd x0 x4) then (if (rd x0 x4) < (x0.length : Int) then (if (rd x0 (rd x0 x4)) = x4 then (pomaderef07_Diagram.l0 k x0 x3 (wrap64 (x4 + 1))) else (some 2)) else (none)) else (none))))) else (none)) else (pomaderef07_Diagram.l1 k x0 x3 0)
def pomaderef07_Diagram.l1 : Nat → List Int → Int → Int → Option (Int)
 | 0, _, _, _ => none
 | k + 1, x0, x3, x5 => if x5 < (x0.length : Int) then (pomaderef07_Diagram.l2 k x0 x3 x5 0) else (some 0)
def pomaderef07_Diagram.l2 : Nat → List Int → Int → Int → Int → Option (Int)
 | 0, _, _, _, _ => none
 | k + 1, x0, x3, x5, x6 => if x6 < (x0.length : Int) then ((pomaderef07_border.f x3 x5).bind fun t272 => (if 0 ≤ x5 then (if x5 < (x0.length : Int) then ((pomaderef07_border.f x3 (rd x0 x5)).bind fun t274 => ((pomaderef07_border.f x3 x6).bind fun t275 => (if 0 ≤ x6 then ((pomaderef07_border.f x3 (rd x0 x6)).bind fun t277 => (if t272 < t275 then (if t275 < t274 then (if t274 < t277 then (some 2) else (pomaderef07_Diagram.l2 k x0 x3 x5 (wrap64 (x6 + 1)))) else (pomaderef07_Diagram.l2 k x0 x3 x5 (wrap64 (x6 + 1)))) else (pomaderef07_Diagram.l2 k x0 x3 x5 (wrap64 (x6 + 1))))) else (none)))) else (none)) else (none))) else (pomaderef07_Diagram.l1 k x0 x3 (wrap64 (x5 + 1)))
end
def pomaderef07_Diagram.f (k : Nat) (l0 : List Int) : Option (Int) := if (l0.length : Int) > 20 then (some 3) else (if (wrap64 ((l0.length : Int) / 2)) < 1 then (pomaderef07_Diagram.j0 k l0 (wrap64 ((l0.length : Int) / 2)) true) else (pomaderef07_Diagram.j0 k l0 (wrap64 ((l0.length : Int) / 2)) (((l0.length : Int) % 2) == 1)))
theorem pomaderef07_Diagram.mono_l : ∀ k, (∀ y0 y1 y2, LeO (pomaderef07_Diagram.j0 k y0 y1 y2) (pomaderef07_Diagram.j0 (k + 1) y0 y1 y2)) ∧ (∀ y0 y1 y2, LeO (pomaderef07_Diagram.l0 k y0 y1 y2) (pomaderef07_Diagram.l0 (k + 1) y0 y1 y2)) ∧ (∀ y0 y1 y2, LeO (pomaderef07_Diagram.l1 k y0 y1 y2) (pomaderef07_Diagram.l1 (k + 1) y0 y1 y2)) ∧ (∀ y0 y1 y2 y3, LeO (pomaderef07_Diagram.l2 k y0 y1 y2 y3) (pomaderef07_Diagram.l2 (k + 1) y0 y1 y2 y3))
 | 0 => ⟨fun _ _ _ r h => by simp [pomaderef07_Diagram.j0] at h, fun _ _ _ r h => by simp [pomaderef07_Diagram.l0] at h, fun _ _ _ r h => by simp [pomaderef07_Diagram.l1] at h, fun _ _ _ _ r h => by simp [pomaderef07_Diagram.l2] at h⟩
 | k + 1 => by
  obtain ⟨ih0, ih1, ih2, ih3⟩ := pomaderef07_Diagram.mono_l k
  refine ⟨?_, ?_, ?_, ?_⟩
  ·intro y0 y1 y2
   unfold pomaderef07_Diagram.j0
   repeat' first
   | (with_reducible exact ih0 _ _ _)
   | (with_reducible exact ih1 _ _ _)
   | (with_reducible exact ih2 _ _ _)
   | (with_reducible exact ih3 _ _ _ _)
   | (with_reducible exact LeO.refl _)
   | (with_reducible exact LeO.none _)
   | (with_reducible refine LeO.ite ?_ ?_)
   | (with_reducible refine LeO.bind ?_ (fun _ => ?_))
   | exact ih0 _ _ _
   | exact ih1 _ _ _
   | exact ih2 _ _ _
   | exact ih3 _ _ _ _
   | exact LeO.none _
   | refine LeO.ite ?_ ?_
   | refine LeO.bind ?_ (fun _ => ?_)
  ·intro y0 y1 y2
   unfold pomaderef07_Diagram.l0
   repeat' first
   | (with_reducible exact ih0 _ _ _)
   | (with_reducible exact ih1 _ _ _)
   | (with_reducible exact ih2 _ _ _)
   | (with_reducible exact ih3 _ _ _ _)
   | (with_reducible exact LeO.refl _)
   | (with_reducible exact LeO.none _)
   | (with_reducible refine LeO.ite ?_ ?_)
   | (with_reducible refine LeO.bind ?_ (fun _ => ?_))
   | exact ih0 _ _ _
   | exact ih1 _ _ _
   | exact ih2 _ _ _
   | exact ih3 _ _ _ _
   | exact LeO.none _
   | refine LeO.ite ?_ ?_
   | refine LeO.bind ?_ (fun _ => ?_)
  ·intro y0 y1 y2
   unfold pomaderef07_Diagram.l1
   repeat' first
   | (with_reducible exact ih0 _ _ _)
   | (with_reducible exact ih1 _ _ _)
   | (with_reducible exact ih2 _ _ _)
   | (with_reducible exact ih3 _ _ _ _)
   | (with_reducible exact LeO.refl _)
   | (with_reducible exact LeO.none _)
   | (with_reducible refine LeO.ite ?_ ?_)
   | (with_reducible refine LeO.bind ?_ (fun _ => ?_))
   | exact ih0 _ _ _
   | exact ih1 _ _ _
   | exact ih2 _ _ _
   | exact ih3 _ _ _ _
   | exact LeO.none _
   | refine LeO.ite ?_ ?_
   | refine LeO.bind ?_ (fun _ => ?_)
  ·intro y0 y1 y2 y3
   unfold pomaderef07_Diagram.l2
   repeat' first
   | (with_reducible exact ih0 _ _ _)
   | (with_reducible exact ih1 _ _ _)
   | (with_reducible exact ih2 _ _ _)
   | (with_reducible exact ih3 _ _ _ _)
   | (with_reducible exact LeO.refl _)
   | (with_reducible exact LeO.none _)
   | (with_reducible refine LeO.ite ?_ ?_)
   | (with_reducible refine LeO.bind ?_ (fun _ => ?_))
   | exact ih0 _ _ _
   | exact ih1 _ _ _
   | exact ih2 _ _ _
   | exact ih3 _ _ _ _
   | exact LeO.none _
   | refine LeO.ite ?_ ?_
   | refine LeO.bind ?_ (fun _ => ?_)
theorem pomaderef07_Diagram.mono : ∀ a0 k, LeO (pomaderef07_Diagram.f k a0) (pomaderef07_Diagram.f (k + 1) a0) := by
 intro a0 k
 obtain ⟨ih0, ih1, ih2, ih3⟩ := pomaderef07_Diagram.mono_l k
 unfold pomaderef07_Diagram.f
 repeat' first
   | (with_reducible exact ih0 _ _ _)
   | (with_reducible exact ih1 _ _ _)
   | (with_reducible exact ih2 _ _ _)
   | (with_reducible exact ih3 _ _ _ _)
   | (with_reducible exact LeO.refl _)
   | (with_reducible exact LeO.none _)
   | (with_reducible refine LeO.ite ?_ ?_)
   | (with_reducible refine LeO.bind ?_ (fun _ => ?_))
   | exact ih0 _ _ _
   | exact ih1 _ _ _
   | exact ih2 _ _ _
   | exact ih3 _ _ _ _
   | exact LeO.none _
   | refine LeO.ite ?_ ?_
   | refine LeO.bind ?_ (fun _ => ?_)
set_option maxHeartbeats 8000000 in
set_option maxRecDepth 100000 in
theorem pomaderef07_Diagram.calls (k : Nat) (A0 : Option Addr) (c0 : Nat) (l0 : List Int) (r : Int) (w : World) (hr0 : Kd.C (Kd.int .i64) w A0 l0.length l0) (hc0 : l0.length ≤ c0) (h : pomaderef07_Diagram.f k l0 = some r) :
  Calls Try.prog 19 #[.slice A0 l0.length c0] w fun e w' => e = .returned (.int .i64 r) ∧ Drawn0 w w' := by
 have HR0 := Aside0.mk hr0
 have HC0 := Aside0.mk hc0
 clear hr0 hc0
 have H : (if (l0.length : Int) > 20 then (some 3) else (if (wrap64 ((l0.length : Int) / 2)) < 1 then (pomaderef07_Diagram.j0 k l0 (wrap64 ((l0.length : Int) / 2)) true) else (pomaderef07_Diagram.j0 k l0 (wrap64 ((l0.length : Int) / 2)) (((l0.length : Int) % 2) == 1)))) = some r := h
 clear h
 by_cases c2 : (l0.length : Int) > 20
 ·rw [if_pos c2] at H
  have c2b0 : decide (20 < (l0.length : Int)) = true := decide_eq_true c2
  have c2b1 : decide (20 < l0.length) = true := decide_eq_true (by omega)
  clear c2
  obtain rfl := Option.some.inj H
  go_enter Try.func19, Try.ntmps19
  go_wp2
  repeat (go_quiet (fail); try go_wp2)
  go_ret
  exact ⟨by first | rfl | (simp; done) | (simp [*]; done), by repeat (first | exact Drawn0.refl _ | apply Drawn0.step)⟩
 ·rw [if_neg c2] at H
  have c2b0 : decide (20 < (l0.length : Int)) = false := decide_eq_false c2
  have c2b1 : decide (20 < l0.length) = false := decide_eq_false (by omega)
  clear c2
  have HC3 := Aside0.mk H
  clear H
  go_enter Try.func19, Try.ntmps19
  go_upto_region 4 with (fail)
  repeat (go_quiet (fail); go_upto_region 4 with (fail))
  go_cut [24] (fun v24 wc => ∃ (kq : Nat) (x24_2 : Bool), v24 = .bool x24_2 ∧ Aside0 (pomaderef07_Diagram.j0 kq l0 (wrap64 ((l0.length : Int) / 2)) x24_2 = some r) ∧ Aside0 (kq ≤ k) ∧ Drawn0 w wc)
  case first =>
   have H := HC3.out
   clear HC3
   by_cases c4 : (wrap64 ((l0.length : Int) / 2)) < 1
   ·rw [if_pos c4] at H
    have c4b0 : decide ((wrap64 ((l0.length : Int) / 2)) < 1) = true := decide_eq_true c4
    clear c4
    (first | rw [c4b0] | (simp only [i64_w, i32_w]; rw [c4b0]) | skip)
    have H' := Aside0.mk H
    clear H
    go_wp2
    repeat (go_quiet (fail); try go_wp2)
    go_meet
    case rel => exact ⟨_, (true), (by first | rfl | (simp; done) | (simp [*]; done)), H', ⟨by first | omega | exact Nat.le_refl _⟩, by repeat (first | exact Drawn0.refl _ | apply Drawn0.step)⟩
   ·rw [if_neg c4] at H
    have c4b0 : decide ((wrap64 ((l0.length : Int) / 2)) < 1) = false := decide_eq_false c4
    clear c4
    (first | rw [c4b0] | (simp only [i64_w, i32_w]; rw [c4b0]) | skip)
    have H' := Aside0.mk H
    clear H
    go_wp2
    repeat (go_quiet (fail); try go_wp2)
    go_meet
    case rel => exact ⟨_, ((((l0.length : Int) % 2) == 1)), (by first | rfl | (simp; done) | (simp [*]; done)), H', ⟨by first | omega | exact Nat.le_refl _⟩, by repeat (first | exact Drawn0.refl _ | apply Drawn0.step)⟩
  case rest =>
   clear HC3
   try clear c1
   try clear c2
   try clear c2b0
   try clear c2b1
   try clear p2
   try clear c4
   try clear c4b0
   obtain ⟨kq, x24_2, rfl, HA, HJ2, ⟨mc2, rfl⟩⟩ := hcut
   cases kq with
   | zero => exact absurd HA.out (by simp [pomaderef07_Diagram.j0])
   | succ kj2 =>
    have H := HA.out
    clear HA
    simp only [pomaderef07_Diagram.j0] at H
    by_cases c5 : x24_2 = true
    ·subst c5
     have H1 : (some 2) = some r := by rw [if_pos rfl] at H; exact H
     clear H
     have H := H1
     clear H1
     obtain rfl := Option.some.inj H
     go_wp2
     repeat (go_quiet (fail); try go_wp2)
     go_ret
     exact ⟨by first | rfl | (simp; done) | (simp [*]; done), by repeat (first | exact Drawn0.refl _ | apply Drawn0.step)⟩
    ·replace c5 := Bool.eq_false_iff.mpr c5
     subst c5
     have H1 : (pomaderef07_Diagram.l0 kj2 l0 (wrap64 ((l0.length : Int) / 2)) 0) = some r := by rw [if_neg (show ¬ (false = true) by decide)] at H; exact H
     clear H
     have H := H1
     clear H1
     have H' := Aside0.mk H
     clear H
     go_wp2
     repeat (go_quiet (fail); try go_wp2)
     go_loopg [4] kj2 (fun kq v4 w' => ∃ (x4_2 : Int), v4 = .int .i64 x4_2 ∧ Aside0 (pomaderef07_Diagram.l0 kq l0 (wrap64 ((l0.length : Int) / 2)) x4_2 = some r) ∧ Aside0 (kq ≤ kj2) ∧ Drawn0 w w')
     case atStart => exact ⟨(0), (by first | rfl | (simp; done) | (simp [*]; done)), H', ⟨Nat.le_refl _⟩, by repeat (first | exact Drawn0.refl _ | apply Drawn0.step)⟩
     case round =>
      clear H'
      try clear c1
      try clear c2
      try clear c2b0
      try clear c2b1
      try clear p2
      try clear c4
      try clear c4b0
      try clear c5
      try clear p2
      obtain ⟨x4_2, rfl, HA, HK2, ⟨m2, rfl⟩⟩ := hrel
      cases gk with
      | zero => exact absurd HA.out (by simp [pomaderef07_Diagram.l0])
      | succ k2 =>
       have H := HA.out
       clear HA
       simp only [pomaderef07_Diagram.l0] at H
       by_cases c6 : x4_2 < (l0.length : Int)
       ·rw [if_pos c6] at H
        have c6b0 : decide (x4_2 < (l0.length : Int)) = true := decide_eq_true c6
        clear c6
        by_cases c7 : 0 ≤ x4_2
        ·rw [if_pos c7] at H
         have c7b0 : decide (0 ≤ x4_2) = true := decide_eq_true c7
         clear c7
         by_cases c8 : (rd l0 x4_2) < 0
         ·rw [if_pos c8] at H
          have c8b0 : decide ((rd l0 x4_2) < 0) = true := decide_eq_true c8
          clear c8
          obtain rfl := Option.some.inj H
          have p267 : 0 ≤ (x4_2 : Int) := of_decide_eq_true (by first | (with_reducible assumption) | assumption)
          have q267 : x4_2 < (l0.length : Int) := of_decide_eq_true (by first | (with_reducible assumption) | assumption)
          obtain ⟨ad267, e267, hx267_0⟩ := Kd.at_int HR0.out x4_2 p267 q267
          cases e267
          replace p267 := eq_true p267
          replace q267 := eq_true q267
          go_wp2
          repeat (go_quiet (fail); try go_wp2)
          go_ret
          exact ⟨by first | rfl | (simp; done) | (simp [*]; done), by repeat (first | exact Drawn0.refl _ | apply Drawn0.step)⟩
         ·rw [if_neg c8] at H
          have c8b0 : decide ((rd l0 x4_2) < 0) = false := decide_eq_false c8
          clear c8
          by_cases c9 : (rd l0 x4_2) ≥ (l0.length : Int)
          ·rw [if_pos c9] at H
           have c9b0 : decide ((l0.length : Int) ≤ (rd l0 x4_2)) = true := decide_eq_true c9
           clear c9
           obtain rfl := Option.some.inj H
           have p267 : 0 ≤ (x4_2 : Int) := of_decide_eq_true (by first | (with_reducible assumption) | assumption)
           have q267 : x4_2 < (l0.length : Int) := of_decide_eq_true (by first | (with_reducible assumption) | assumption)
           obtain ⟨ad267, e267, hx267_0⟩ := Kd.at_int HR0.out x4_2 p267 q267
           cases e267
           replace p267 := eq_true p267
           replace q267 := eq_true q267
           have p268 : 0 ≤ (x4_2 : Int) := of_decide_eq_true (by first | (with_reducible assumption) | assumption)
           have q268 : x4_2 < (l0.length : Int) := of_decide_eq_true (by first | (with_reducible assumption) | assumption)
           obtain ⟨ad268, e268, hx268_0⟩ := Kd.at_int HR0.out x4_2 p268 q268
           obtain rfl : ad267 = ad268 := (by injection e268)
           replace p268 := eq_true p268
           replace q268 := eq_true q268
           go_wp2
           repeat (go_quiet (fail); try go_wp2)
           go_ret
           exact ⟨by first | rfl | (simp; done) | (simp [*]; done), by repeat (first | exact Drawn0.refl _ | apply Drawn0.step)⟩
          ·rw [if_neg c9] at H
           have c9b0 : decide ((l0.length : Int) ≤ (rd l0 x4_2)) = false := decide_eq_false c9
           clear c9
           by_cases c10 : (rd l0 x4_2) = x4_2
           ·rw [if_pos c10] at H
            have c10b0 : ((rd l0 x4_2) == x4_2) = true := beq_iff_eq.mpr c10
            have c10b1 : ((rd l0 x4_2) != x4_2) = false := bne_eq_false_iff_eq.mpr c10
            clear c10
            obtain rfl := Option.some.inj H
            have p267 : 0 ≤ (x4_2 : Int) := of_decide_eq_true (by first | (with_reducible assumption) | assumption)
            have q267 : x4_2 < (l0.length : Int) := of_decide_eq_true (by first | (with_reducible assumption) | assumption)
            obtain ⟨ad267, e267, hx267_0⟩ := Kd.at_int HR0.out x4_2 p267 q267
            cases e267
            replace p267 := eq_true p267
            replace q267 := eq_true q267
            have p268 : 0 ≤ (x4_2 : Int) := of_decide_eq_true (by first | (with_reducible assumption) | assumption)
            have q268 : x4_2 < (l0.length : Int) := of_decide_eq_true (by first | (with_reducible assumption) | assumption)
            obtain ⟨ad268, e268, hx268_0⟩ := Kd.at_int HR0.out x4_2 p268 q268
            obtain rfl : ad267 = ad268 := (by injection e268)
            replace p268 := eq_true p268
            replace q268 := eq_true q268
            have p269 : 0 ≤ (x4_2 : Int) := of_decide_eq_true (by first | (with_reducible assumption) | assumption)
            have q269 : x4_2 < (l0.length : Int) := of_decide_eq_true (by first | (with_reducible assumption) | assumption)
            obtain ⟨ad269, e269, hx269_0⟩ := Kd.at_int HR0.out x4_2 p269 q269
            obtain rfl : ad267 = ad269 := (by injection e269)
            replace p269 := eq_true p269
            replace q269 := eq_true q269
            go_wp2
            repeat (go_quiet (fail); try go_wp2)
            go_ret
            exact ⟨by first | rfl | (simp; done) | (simp [*]; done), by repeat (first | exact Drawn0.refl _ | apply Drawn0.step)⟩
           ·rw [if_neg c10] at H
            have c10b0 : ((rd l0 x4_2) == x4_2) = false := beq_eq_false_iff_ne.mpr c10
            have c10b1 : ((rd l0 x4_2) != x4_2) = true := bne_iff_ne.mpr c10
            by_cases c11 : 0 ≤ (rd l0 x4_2)
            ·rw [if_pos c11] at H
             have c11b0 : decide (0 ≤ (rd l0 x4_2)) = true := decide_eq_true c11
             clear c11
             by_cases c12 : (rd l0 x4_2) < (l0.length : Int)
             ·rw [if_pos c12] at H
              have c12b0 : decide ((rd l0 x4_2) < (l0.length : Int)) = true := decide_eq_true c12
              clear c12
              by_cases c13 : (rd l0 (rd l0 x4_2)) = x4_2
              ·rw [if_pos c13] at H
               have c13b0 : ((rd l0 (rd l0 x4_2)) == x4_2) = true := beq_iff_eq.mpr c13
               have c13b1 : ((rd l0 (rd l0 x4_2)) != x4_2) = false := bne_eq_false_iff_eq.mpr c13
               clear c13
               have H' := Aside0.mk H
               clear H
               have p267 : 0 ≤ (x4_2 : Int) := of_decide_eq_true (by first | (with_reducible assumption) | assumption)
               have q267 : x4_2 < (l0.length : Int) := of_decide_eq_true (by first | (with_reducible assumption) | assumption)
               obtain ⟨ad267, e267, hx267_0⟩ := Kd.at_int HR0.out x4_2 p267 q267
               cases e267
               replace p267 := eq_true p267
               replace q267 := eq_true q267
               have p268 : 0 ≤ (x4_2 : Int) := of_decide_eq_true (by first | (with_reducible assumption) | assumption)
               have q268 : x4_2 < (l0.length : Int) := of_decide_eq_true (by first | (with_reducible assumption) | assumption)
               obtain ⟨ad268, e268, hx268_0⟩ := Kd.at_int HR0.out x4_2 p268 q268
               obtain rfl : ad267 = ad268 := (by injection e268)
               replace p268 := eq_true p268
               replace q268 := eq_true q268
               have p269 : 0 ≤ (x4_2 : Int) := of_decide_eq_true (by first | (with_reducible assumption) | assumption)
               have q269 : x4_2 < (l0.length : Int) := of_decide_eq_true (by first | (with_reducible assumption) | assumption)
               obtain ⟨ad269, e269, hx269_0⟩ := Kd.at_int HR0.out x4_2 p269 q269
               obtain rfl : ad267 = ad269 := (by injection e269)
               replace p269 := eq_true p269
               replace q269 := eq_true q269
               have p270 : 0 ≤ (x4_2 : Int) := of_decide_eq_true (by first | (with_reducible assumption) | assumption)
               have q270 : x4_2 < (l0.length : Int) := of_decide_eq_true (by first | (with_reducible assumption) | assumption)
               obtain ⟨ad270, e270, hx270_0⟩ := Kd.at_int HR0.out x4_2 p270 q270
               obtain rfl : ad267 = ad270 := (by injection e270)
               replace p270 := eq_true p270
               replace q270 := eq_true q270
               have p271 : 0 ≤ ((rd l0 x4_2) : Int) := of_decide_eq_true (by first | (with_reducible assumption) | assumption)
               have q271 : (rd l0 x4_2) < (l0.length : Int) := of_decide_eq_true (by first | (with_reducible assumption) | assumption)
               obtain ⟨ad271, e271, hx271_0⟩ := Kd.at_int HR0.out (rd l0 x4_2) p271 q271
               obtain rfl : ad267 = ad271 := (by injection e271)
               replace p271 := eq_true p271
               replace q271 := eq_true q271
               go_wp2
               repeat (go_quiet (fail); try go_wp2)
               go_roundg k2
               case measure => have := HJ2.out; have := HK2.out; omega
               case rel => exact ⟨(wrap64 (x4_2 + 1)), (by first | rfl | (simp; done) | (simp [*]; done)), H', ⟨by have := HJ2.out; have := HK2.out; omega⟩, by repeat (first | exact Drawn0.refl _ | apply Drawn0.step)⟩
              ·rw [if_neg c13] at H
               have c13b0 : ((rd l0 (rd l0 x4_2)) == x4_2) = false := beq_eq_false_iff_ne.mpr c13
               have c13b1 : ((rd l0 (rd l0 x4_2)) != x4_2) = true := bne_iff_ne.mpr c13
               obtain rfl := Option.some.inj H
               have p267 : 0 ≤ (x4_2 : Int) := of_decide_eq_true (by first | (with_reducible assumption) | assumption)
               have q267 : x4_2 < (l0.length : Int) := of_decide_eq_true (by first | (with_reducible assumption) | assumption)
               obtain ⟨ad267, e267, hx267_0⟩ := Kd.at_int HR0.out x4_2 p267 q267
               cases e267
               replace p267 := eq_true p267
               replace q267 := eq_true q267
               have p268 : 0 ≤ (x4_2 : Int) := of_decide_eq_true (by first | (with_reducible assumption) | assumption)
               have q268 : x4_2 < (l0.length : Int) := of_decide_eq_true (by first | (with_reducible assumption) | assumption)
               obtain ⟨ad268, e268, hx268_0⟩ := Kd.at_int HR0.out x4_2 p268 q268
               obtain rfl : ad267 = ad268 := (by injection e268)
               replace p268 := eq_true p268
               replace q268 := eq_true q268
               have p269 : 0 ≤ (x4_2 : Int) := of_decide_eq_true (by first | (with_reducible assumption) | assumption)
               have q269 : x4_2 < (l0.length : Int) := of_decide_eq_true (by first | (with_reducible assumption) | assumption)
               obtain ⟨ad269, e269, hx269_0⟩ := Kd.at_int HR0.out x4_2 p269 q269
               obtain rfl : ad267 = ad269 := (by injection e269)
               replace p269 := eq_true p269
               replace q269 := eq_true q269
               have p270 : 0 ≤ (x4_2 : Int) := of_decide_eq_true (by first | (with_reducible assumption) | assumption)
               have q270 : x4_2 < (l0.length : Int) := of_decide_eq_true (by first | (with_reducible assumption) | assumption)
               obtain ⟨ad270, e270, hx270_0⟩ := Kd.at_int HR0.out x4_2 p270 q270
               obtain rfl : ad267 = ad270 := (by injection e270)
               replace p270 := eq_true p270
               replace q270 := eq_true q270
               have p271 : 0 ≤ ((rd l0 x4_2) : Int) := of_decide_eq_true (by first | (with_reducible assumption) | assumption)
               have q271 : (rd l0 x4_2) < (l0.length : Int) := of_decide_eq_true (by first | (with_reducible assumption) | assumption)
               obtain ⟨ad271, e271, hx271_0⟩ := Kd.at_int HR0.out (rd l0 x4_2) p271 q271
               obtain rfl : ad267 = ad271 := (by injection e271)
               replace p271 := eq_true p271
               replace q271 := eq_true q271
               go_wp2
               repeat (go_quiet (fail); try go_wp2)
               go_ret
               exact ⟨by first | rfl | (simp; done) | (simp [*]; done), by repeat (first | exact Drawn0.refl _ | apply Drawn0.step)⟩
             ·rw [if_neg c12] at H
              exact absurd H (by simp)
            ·rw [if_neg c11] at H
             exact absurd H (by simp)
        ·rw [if_neg c7] at H
         exact absurd H (by simp)
       ·rw [if_neg c6] at H
        have c6b0 : decide (x4_2 < (l0.length : Int)) = false := decide_eq_false c6
        clear c6
        have H' := Aside0.mk H
        clear H
        go_wp2
        repeat (go_quiet (fail); try go_wp2)
        go_loopg [5] k2 (fun kq v5 w' => ∃ (x5_3 : Int), v5 = .int .i64 x5_3 ∧ Aside0 (pomaderef07_Diagram.l1 kq l0 (wrap64 ((l0.length : Int) / 2)) x5_3 = some r) ∧ Aside0 (kq ≤ k2) ∧ Drawn0 w w')
        case atStart => exact ⟨(0), (by first | rfl | (simp; done) | (simp [*]; done)), H', ⟨Nat.le_refl _⟩, by repeat (first | exact Drawn0.refl _ | apply Drawn0.step)⟩
        case round =>
         clear H'
         try clear c1
         try clear c2
         try clear c2b0
         try clear c2b1
         try clear p2
         try clear q2
         try clear hx2
         try clear c4
         try clear c4b0
         try clear c5
         try clear c6
         try clear c6b0
         try clear p6
         try clear c7
         try clear c7b0
         try clear c8
         try clear c8b0
         try clear c9
         try clear c9b0
         try clear c10
         try clear c10b0
         try clear c10b1
         try clear c11
         try clear c11b0
         try clear c12
         try clear c12b0
         try clear c13
         try clear c13b0
         try clear c13b1
         try clear hx267_0
         try clear hx268_0
         try clear hx269_0
         try clear hx270_0
         try clear hx271_0
         try clear p2
         try clear p267
         try clear p268
         try clear p269
         try clear p270
         try clear p271
         try clear q267
         try clear q268
         try clear q269
         try clear q270
         try clear q271
         obtain ⟨x5_3, rfl, HA, HK3, ⟨m3, rfl⟩⟩ := hrel
         cases gk with
         | zero => exact absurd HA.out (by simp [pomaderef07_Diagram.l1])
         | succ k3 =>
          have H := HA.out
          clear HA
          simp only [pomaderef07_Diagram.l1] at H
          by_cases c14 : x5_3 < (l0.length : Int)
          ·rw [if_pos c14] at H
           have c14b0 : decide (x5_3 < (l0.length : Int)) = true := decide_eq_true c14
           clear c14
           have H' := Aside0.mk H
           clear H
           go_wp2
           repeat (go_quiet (fail); try go_wp2)
           go_loopg [6] k3 (fun kq v6 w' => ∃ (x6_4 : Int), v6 = .int .i64 x6_4 ∧ Aside0 (pomaderef07_Diagram.l2 kq l0 (wrap64 ((l0.length : Int) / 2)) x5_3 x6_4 = some r) ∧ Aside0 (kq ≤ k3) ∧ Drawn0 w w')
           case atStart => exact ⟨(0), (by first | rfl | (simp; done) | (simp [*]; done)), H', ⟨Nat.le_refl _⟩, by repeat (first | exact Drawn0.refl _ | apply Drawn0.step)⟩
           case round =>
            clear H'
            try clear c1
            try clear c2
            try clear c2b0
            try clear c2b1
            try clear p2
            try clear q2
            try clear hx2
            try clear c4
            try clear c4b0
            try clear c5
            try clear c6
            try clear c6b0
            try clear p6
            try clear c7
            try clear c7b0
            try clear c8
            try clear c8b0
            try clear c9
            try clear c9b0
            try clear c10
            try clear c10b0
            try clear c10b1
            try clear c11
            try clear c11b0
            try clear c12
            try clear c12b0
            try clear c13
            try clear c13b0
            try clear c13b1
            try clear c14
            try clear c14b0
            try clear hx267_0
            try clear hx268_0
            try clear hx269_0
            try clear hx270_0
            try clear hx271_0
            try clear p2
            try clear p267
            try clear p268
            try clear p269
            try clear p270
            try clear p271
            try clear p6
            try clear q2
            try clear q267
            try clear q268
            try clear q269
            try clear q270
            try clear q271
            obtain ⟨x6_4, rfl, HA, HK4, ⟨m4, rfl⟩⟩ := hrel
            cases gk with
            | zero => exact absurd HA.out (by simp [pomaderef07_Diagram.l2])
            | succ k4 =>
             have H := HA.out
             clear HA
             simp only [pomaderef07_Diagram.l2] at H
             by_cases c15 : x6_4 < (l0.length : Int)
             ·rw [if_pos c15] at H
              have c15b0 : decide (x6_4 < (l0.length : Int)) = true := decide_eq_true c15
              clear c15
              replace H := Option.bind_eq_some_iff.mp H
              obtain ⟨t272, A160, H⟩ := H
              replace H : (if 0 ≤ x5_3 then (if x5_3 < (l0.length : Int) then ((pomaderef07_border.f (wrap64 ((l0.length : Int) / 2)) (rd l0 x5_3)).bind fun t274 => ((pomaderef07_border.f (wrap64 ((l0.length : Int) / 2)) x6_4).bind fun t275 => (if 0 ≤ x6_4 then ((pomaderef07_border.f (wrap64 ((l0.length : Int) / 2)) (rd l0 x6_4)).bind fun t277 => (if t272 < t275 then (if t275 < t274 then (if t274 < t277 then (some 2) else (pomaderef07_Diagram.l2 k4 l0 (wrap64 ((l0.length : Int) / 2)) x5_3 (wrap64 (x6_4 + 1)))) else (pomaderef07_Diagram.l2 k4 l0 (wrap64 ((l0.length : Int) / 2)) x5_3 (wrap64 (x6_4 + 1)))) else (pomaderef07_Diagram.l2 k4 l0 (wrap64 ((l0.length : Int) / 2)) x5_3 (wrap64 (x6_4 + 1))))) else (none)))) else (none)) else (none)) = some r := H
              have A16 := Aside0.mk A160
              clear A160
              by_cases c17 : 0 ≤ x5_3
              ·rw [if_pos c17] at H
               have c17b0 : decide (0 ≤ x5_3) = true := decide_eq_true c17
               clear c17
               by_cases c18 : x5_3 < (l0.length : Int)
               ·rw [if_pos c18] at H
                have c18b0 : decide (x5_3 < (l0.length : Int)) = true := decide_eq_true c18
                clear c18
                replace H := Option.bind_eq_some_iff.mp H
                obtain ⟨t274, A190, H⟩ := H
                replace H : ((pomaderef07_border.f (wrap64 ((l0.length : Int) / 2)) x6_4).bind fun t275 => (if 0 ≤ x6_4 then ((pomaderef07_border.f (wrap64 ((l0.length : Int) / 2)) (rd l0 x6_4)).bind fun t277 => (if t272 < t275 then (if t275 < t274 then (if t274 < t277 then (some 2) else (pomaderef07_Diagram.l2 k4 l0 (wrap64 ((l0.length : Int) / 2)) x5_3 (wrap64 (x6_4 + 1)))) else (pomaderef07_Diagram.l2 k4 l0 (wrap64 ((l0.length : Int) / 2)) x5_3 (wrap64 (x6_4 + 1)))) else (pomaderef07_Diagram.l2 k4 l0 (wrap64 ((l0.length : Int) / 2)) x5_3 (wrap64 (x6_4 + 1))))) else (none))) = some r := H
                have A19 := Aside0.mk A190
                clear A190
                replace H := Option.bind_eq_some_iff.mp H
                obtain ⟨t275, A200, H⟩ := H
                replace H : (if 0 ≤ x6_4 then ((pomaderef07_border.f (wrap64 ((l0.length : Int) / 2)) (rd l0 x6_4)).bind fun t277 => (if t272 < t275 then (if t275 < t274 then (if t274 < t277 then (some 2) else (pomaderef07_Diagram.l2 k4 l0 (wrap64 ((l0.length : Int) / 2)) x5_3 (wrap64 (x6_4 + 1)))) else (pomaderef07_Diagram.l2 k4 l0 (wrap64 ((l0.length : Int) / 2)) x5_3 (wrap64 (x6_4 + 1)))) else (pomaderef07_Diagram.l2 k4 l0 (wrap64 ((l0.length : Int) / 2)) x5_3 (wrap64 (x6_4 + 1))))) else (none)) = some r := H
                have A20 := Aside0.mk A200
                clear A200
                by_cases c21 : 0 ≤ x6_4
                ·rw [if_pos c21] at H
                 have c21b0 : decide (0 ≤ x6_4) = true := decide_eq_true c21
                 clear c21
                 replace H := Option.bind_eq_some_iff.mp H
                 obtain ⟨t277, A220, H⟩ := H
                 replace H : (if t272 < t275 then (if t275 < t274 then (if t274 < t277 then (some 2) else (pomaderef07_Diagram.l2 k4 l0 (wrap64 ((l0.length : Int) / 2)) x5_3 (wrap64 (x6_4 + 1)))) else (pomaderef07_Diagram.l2 k4 l0 (wrap64 ((l0.length : Int) / 2)) x5_3 (wrap64 (x6_4 + 1)))) else (pomaderef07_Diagram.l2 k4 l0 (wrap64 ((l0.length : Int) / 2)) x5_3 (wrap64 (x6_4 + 1)))) = some r := H
                 have A22 := Aside0.mk A220
                 clear A220
                 by_cases c23 : t272 < t275
                 ·rw [if_pos c23] at H
                  have c23b0 : decide (t272 < t275) = true := decide_eq_true c23
                  clear c23
                  by_cases c24 : t275 < t274
                  ·rw [if_pos c24] at H
                   have c24b0 : decide (t275 < t274) = true := decide_eq_true c24
                   clear c24
                   by_cases c25 : t274 < t277
                   ·rw [if_pos c25] at H
                    have c25b0 : decide (t274 < t277) = true := decide_eq_true c25
                    clear c25
                    obtain rfl := Option.some.inj H
                    go_wp2_with (first | (go_at_call 53; (with_reducible refine (pomaderef07_border.calls (wrap64 ((l0.length : Int) / 2)) x5_3 t272 _ A16.out).mono ?_); rintro e w' ⟨rfl, ⟨nd, rfl⟩⟩; (try first | exact ⟨rfl, _, World.drewN_drewN _ _ _⟩ | exact ⟨rfl, _, Eq.trans (World.drewN_drewN _ _ _) (congrArg (World.drewN _) (Nat.add_assoc _ _ _))⟩); have p273 : 0 ≤ (x5_3 : Int) := of_decide_eq_true (by first | (with_reducible assumption) | assumption); have q273 : x5_3 < (l0.length : Int) := of_decide_eq_true (by first | (with_reducible assumption) | assumption); obtain ⟨ad273, e273, hx273_0⟩ := Kd.at_int HR0.out x5_3 p273 q273; cases e273; replace p273 := eq_true p273; replace q273 := eq_true q273) | (go_at_call 53; (with_reducible refine (pomaderef07_border.calls (wrap64 ((l0.length : Int) / 2)) (rd l0 x5_3) t274 _ A19.out).mono ?_); rintro e w' ⟨rfl, ⟨nd, rfl⟩⟩; (try first | exact ⟨rfl, _, World.drewN_drewN _ _ _⟩ | exact ⟨rfl, _, Eq.trans (World.drewN_drewN _ _ _) (congrArg (World.drewN _) (Nat.add_assoc _ _ _))⟩)) | (go_at_call 53; (with_reducible refine (pomaderef07_border.calls (wrap64 ((l0.length : Int) / 2)) x6_4 t275 _ A20.out).mono ?_); rintro e w' ⟨rfl, ⟨nd, rfl⟩⟩; (try first | exact ⟨rfl, _, World.drewN_drewN _ _ _⟩ | exact ⟨rfl, _, Eq.trans (World.drewN_drewN _ _ _) (congrArg (World.drewN _) (Nat.add_assoc _ _ _))⟩); have p276 : 0 ≤ (x6_4 : Int) := of_decide_eq_true (by first | (with_reducible assumption) | assumption); have q276 : x6_4 < (l0.length : Int) := of_decide_eq_true (by first | (with_reducible assumption) | assumption); obtain ⟨ad276, e276, hx276_0⟩ := Kd.at_int HR0.out x6_4 p276 q276; obtain rfl : ad273 = ad276 := (by injection e276); replace p276 := eq_true p276; replace q276 := eq_true q276) | (go_at_call 53; (with_reducible refine (pomaderef07_border.calls (wrap64 ((l0.length : Int) / 2)) (rd l0 x6_4) t277 _ A22.out).mono ?_); rintro e w' ⟨rfl, ⟨nd, rfl⟩⟩; (try first | exact ⟨rfl, _, World.drewN_drewN _ _ _⟩ | exact ⟨rfl, _, Eq.trans (World.drewN_drewN _ _ _) (congrArg (World.drewN _) (Nat.add_assoc _ _ _))⟩)))
                    repeat (go_quiet (first | (go_at_call 53; (with_reducible refine (pomaderef07_border.calls (wrap64 ((l0.length : Int) / 2)) x5_3 t272 _ A16.out).mono ?_); rintro e w' ⟨rfl, ⟨nd, rfl⟩⟩; (try first | exact ⟨rfl, _, World.drewN_drewN _ _ _⟩ | exact ⟨rfl, _, Eq.trans (World.drewN_drewN _ _ _) (congrArg (World.drewN _) (Nat.add_assoc _ _ _))⟩); have p273 : 0 ≤ (x5_3 : Int) := of_decide_eq_true (by first | (with_reducible assumption) | assumption); have q273 : x5_3 < (l0.length : Int) := of_decide_eq_true (by first | (with_reducible assumption) | assumption); obtain ⟨ad273, e273, hx273_0⟩ := Kd.at_int HR0.out x5_3 p273 q273; cases e273; replace p273 := eq_true p273; replace q273 := eq_true q273) | (go_at_call 53; (with_reducible refine (pomaderef07_border.calls (wrap64 ((l0.length : Int) / 2)) (rd l0 x5_3) t274 _ A19.out).mono ?_); rintro e w' ⟨rfl, ⟨nd, rfl⟩⟩; (try first | exact ⟨rfl, _, World.drewN_drewN _ _ _⟩ | exact ⟨rfl, _, Eq.trans (World.drewN_drewN _ _ _) (congrArg (World.drewN _) (Nat.add_assoc _ _ _))⟩)) | (go_at_call 53; (with_reducible refine (pomaderef07_border.calls (wrap64 ((l0.length : Int) / 2)) x6_4 t275 _ A20.out).mono ?_); rintro e w' ⟨rfl, ⟨nd, rfl⟩⟩; (try first | exact ⟨rfl, _, World.drewN_drewN _ _ _⟩ | exact ⟨rfl, _, Eq.trans (World.drewN_drewN _ _ _) (congrArg (World.drewN _) (Nat.add_assoc _ _ _))⟩); have p276 : 0 ≤ (x6_4 : Int) := of_decide_eq_true (by first | (with_reducible assumption) | assumption); have q276 : x6_4 < (l0.length : Int) := of_decide_eq_true (by first | (with_reducible assumption) | assumption); obtain ⟨ad276, e276, hx276_0⟩ := Kd.at_int HR0.out x6_4 p276 q276; obtain rfl : ad273 = ad276 := (by injection e276); replace p276 := eq_true p276; replace q276 := eq_true q276) | (go_at_call 53; (with_reducible refine (pomaderef07_border.calls (wrap64 ((l0.length : Int) / 2)) (rd l0 x6_4) t277 _ A22.out).mono ?_); rintro e w' ⟨rfl, ⟨nd, rfl⟩⟩; (try first | exact ⟨rfl, _, World.drewN_drewN _ _ _⟩ | exact ⟨rfl, _, Eq.trans (World.drewN_drewN _ _ _) (congrArg (World.drewN _) (Nat.add_assoc _ _ _))⟩))); try go_wp2_with (first | (go_at_call 53; (with_reducible refine (pomaderef07_border.calls (wrap64 ((l0.length : Int) / 2)) x5_3 t272 _ A16.out).mono ?_); rintro e w' ⟨rfl, ⟨nd, rfl⟩⟩; (try first | exact ⟨rfl, _, World.drewN_drewN _ _ _⟩ | exact ⟨rfl, _, Eq.trans (World.drewN_drewN _ _ _) (congrArg (World.drewN _) (Nat.add_assoc _ _ _))⟩); have p273 : 0 ≤ (x5_3 : Int) := of_decide_eq_true (by first | (with_reducible assumption) | assumption); have q273 : x5_3 < (l0.length : Int) := of_decide_eq_true (by first | (with_reducible assumption) | assumption); obtain ⟨ad273, e273, hx273_0⟩ := Kd.at_int HR0.out x5_3 p273 q273; cases e273; replace p273 := eq_true p273; replace q273 := eq_true q273) | (go_at_call 53; (with_reducible refine (pomaderef07_border.calls (wrap64 ((l0.length : Int) / 2)) (rd l0 x5_3) t274 _ A19.out).mono ?_); rintro e w' ⟨rfl, ⟨nd, rfl⟩⟩; (try first | exact ⟨rfl, _, World.drewN_drewN _ _ _⟩ | exact ⟨rfl, _, Eq.trans (World.drewN_drewN _ _ _) (congrArg (World.drewN _) (Nat.add_assoc _ _ _))⟩)) | (go_at_call 53; (with_reducible refine (pomaderef07_border.calls (wrap64 ((l0.length : Int) / 2)) x6_4 t275 _ A20.out).mono ?_); rintro e w' ⟨rfl, ⟨nd, rfl⟩⟩; (try first | exact ⟨rfl, _, World.drewN_drewN _ _ _⟩ | exact ⟨rfl, _, Eq.trans (World.drewN_drewN _ _ _) (congrArg (World.drewN _) (Nat.add_assoc _ _ _))⟩); have p276 : 0 ≤ (x6_4 : Int) := of_decide_eq_true (by first | (with_reducible assumption) | assumption); have q276 : x6_4 < (l0.length : Int) := of_decide_eq_true (by first | (with_reducible assumption) | assumption); obtain ⟨ad276, e276, hx276_0⟩ := Kd.at_int HR0.out x6_4 p276 q276; obtain rfl : ad273 = ad276 := (by injection e276); replace p276 := eq_true p276; replace q276 := eq_true q276) | (go_at_call 53; (with_reducible refine (pomaderef07_border.calls (wrap64 ((l0.length : Int) / 2)) (rd l0 x6_4) t277 _ A22.out).mono ?_); rintro e w' ⟨rfl, ⟨nd, rfl⟩⟩; (try first | exact ⟨rfl, _, World.drewN_drewN _ _ _⟩ | exact ⟨rfl, _, Eq.trans (World.drewN_drewN _ _ _) (congrArg (World.drewN _) (Nat.add_assoc _ _ _))⟩))))
                    go_ret
                    exact ⟨by first | rfl | (simp; done) | (simp [*]; done), by repeat (first | exact Drawn0.refl _ | apply Drawn0.step)⟩
                   ·rw [if_neg c25] at H
                    have c25b0 : decide (t274 < t277) = false := decide_eq_false c25
                    clear c25
                    have H' := Aside0.mk H
                    clear H
                    go_wp2_with (first | (go_at_call 53; (with_reducible refine (pomaderef07_border.calls (wrap64 ((l0.length : Int) / 2)) x5_3 t272 _ A16.out).mono ?_); rintro e w' ⟨rfl, ⟨nd, rfl⟩⟩; (try first | exact ⟨rfl, _, World.drewN_drewN _ _ _⟩ | exact ⟨rfl, _, Eq.trans (World.drewN_drewN _ _ _) (congrArg (World.drewN _) (Nat.add_assoc _ _ _))⟩); have p273 : 0 ≤ (x5_3 : Int) := of_decide_eq_true (by first | (with_reducible assumption) | assumption); have q273 : x5_3 < (l0.length : Int) := of_decide_eq_true (by first | (with_reducible assumption) | assumption); obtain ⟨ad273, e273, hx273_0⟩ := Kd.at_int HR0.out x5_3 p273 q273; cases e273; replace p273 := eq_true p273; replace q273 := eq_true q273) | (go_at_call 53; (with_reducible refine (pomaderef07_border.calls (wrap64 ((l0.length : Int) / 2)) (rd l0 x5_3) t274 _ A19.out).mono ?_); rintro e w' ⟨rfl, ⟨nd, rfl⟩⟩; (try first | exact ⟨rfl, _, World.drewN_drewN _ _ _⟩ | exact ⟨rfl, _, Eq.trans (World.drewN_drewN _ _ _) (congrArg (World.drewN _) (Nat.add_assoc _ _ _))⟩)) | (go_at_call 53; (with_reducible refine (pomaderef07_border.calls (wrap64 ((l0.length : Int) / 2)) x6_4 t275 _ A20.out).mono ?_); rintro e w' ⟨rfl, ⟨nd, rfl⟩⟩; (try first | exact ⟨rfl, _, World.drewN_drewN _ _ _⟩ | exact ⟨rfl, _, Eq.trans (World.drewN_drewN _ _ _) (congrArg (World.drewN _) (Nat.add_assoc _ _ _))⟩); have p276 : 0 ≤ (x6_4 : Int) := of_decide_eq_true (by first | (with_reducible assumption) | assumption); have q276 : x6_4 < (l0.length : Int) := of_decide_eq_true (by first | (with_reducible assumption) | assumption); obtain ⟨ad276, e276, hx276_0⟩ := Kd.at_int HR0.out x6_4 p276 q276; obtain rfl : ad273 = ad276 := (by injection e276); replace p276 := eq_true p276; replace q276 := eq_true q276) | (go_at_call 53; (with_reducible refine (pomaderef07_border.calls (wrap64 ((l0.length : Int) / 2)) (rd l0 x6_4) t277 _ A22.out).mono ?_); rintro e w' ⟨rfl, ⟨nd, rfl⟩⟩; (try first | exact ⟨rfl, _, World.drewN_drewN _ _ _⟩ | exact ⟨rfl, _, Eq.trans (World.drewN_drewN _ _ _) (congrArg (World.drewN _) (Nat.add_assoc _ _ _))⟩)))
                    repeat (go_quiet (first | (go_at_call 53; (with_reducible refine (pomaderef07_border.calls (wrap64 ((l0.length : Int) / 2)) x5_3 t272 _ A16.out).mono ?_); rintro e w' ⟨rfl, ⟨nd, rfl⟩⟩; (try first | exact ⟨rfl, _, World.drewN_drewN _ _ _⟩ | exact ⟨rfl, _, Eq.trans (World.drewN_drewN _ _ _) (congrArg (World.drewN _) (Nat.add_assoc _ _ _))⟩); have p273 : 0 ≤ (x5_3 : Int) := of_decide_eq_true (by first | (with_reducible assumption) | assumption); have q273 : x5_3 < (l0.length : Int) := of_decide_eq_true (by first | (with_reducible assumption) | assumption); obtain ⟨ad273, e273, hx273_0⟩ := Kd.at_int HR0.out x5_3 p273 q273; cases e273; replace p273 := eq_true p273; replace q273 := eq_true q273) | (go_at_call 53; (with_reducible refine (pomaderef07_border.calls (wrap64 ((l0.length : Int) / 2)) (rd l0 x5_3) t274 _ A19.out).mono ?_); rintro e w' ⟨rfl, ⟨nd, rfl⟩⟩; (try first | exact ⟨rfl, _, World.drewN_drewN _ _ _⟩ | exact ⟨rfl, _, Eq.trans (World.drewN_drewN _ _ _) (congrArg (World.drewN _) (Nat.add_assoc _ _ _))⟩)) | (go_at_call 53; (with_reducible refine (pomaderef07_border.calls (wrap64 ((l0.length : Int) / 2)) x6_4 t275 _ A20.out).mono ?_); rintro e w' ⟨rfl, ⟨nd, rfl⟩⟩; (try first | exact ⟨rfl, _, World.drewN_drewN _ _ _⟩ | exact ⟨rfl, _, Eq.trans (World.drewN_drewN _ _ _) (congrArg (World.drewN _) (Nat.add_assoc _ _ _))⟩); have p276 : 0 ≤ (x6_4 : Int) := of_decide_eq_true (by first | (with_reducible assumption) | assumption); have q276 : x6_4 < (l0.length : Int) := of_decide_eq_true (by first | (with_reducible assumption) | assumption); obtain ⟨ad276, e276, hx276_0⟩ := Kd.at_int HR0.out x6_4 p276 q276; obtain rfl : ad273 = ad276 := (by injection e276); replace p276 := eq_true p276; replace q276 := eq_true q276) | (go_at_call 53; (with_reducible refine (pomaderef07_border.calls (wrap64 ((l0.length : Int) / 2)) (rd l0 x6_4) t277 _ A22.out).mono ?_); rintro e w' ⟨rfl, ⟨nd, rfl⟩⟩; (try first | exact ⟨rfl, _, World.drewN_drewN _ _ _⟩ | exact ⟨rfl, _, Eq.trans (World.drewN_drewN _ _ _) (congrArg (World.drewN _) (Nat.add_assoc _ _ _))⟩))); try go_wp2_with (first | (go_at_call 53; (with_reducible refine (pomaderef07_border.calls (wrap64 ((l0.length : Int) / 2)) x5_3 t272 _ A16.out).mono ?_); rintro e w' ⟨rfl, ⟨nd, rfl⟩⟩; (try first | exact ⟨rfl, _, World.drewN_drewN _ _ _⟩ | exact ⟨rfl, _, Eq.trans (World.drewN_drewN _ _ _) (congrArg (World.drewN _) (Nat.add_assoc _ _ _))⟩); have p273 : 0 ≤ (x5_3 : Int) := of_decide_eq_true (by first | (with_reducible assumption) | assumption); have q273 : x5_3 < (l0.length : Int) := of_decide_eq_true (by first | (with_reducible assumption) | assumption); obtain ⟨ad273, e273, hx273_0⟩ := Kd.at_int HR0.out x5_3 p273 q273; cases e273; replace p273 := eq_true p273; replace q273 := eq_true q273) | (go_at_call 53; (with_reducible refine (pomaderef07_border.calls (wrap64 ((l0.length : Int) / 2)) (rd l0 x5_3) t274 _ A19.out).mono ?_); rintro e w' ⟨rfl, ⟨nd, rfl⟩⟩; (try first | exact ⟨rfl, _, World.drewN_drewN _ _ _⟩ | exact ⟨rfl, _, Eq.trans (World.drewN_drewN _ _ _) (congrArg (World.drewN _) (Nat.add_assoc _ _ _))⟩)) | (go_at_call 53; (with_reducible refine (pomaderef07_border.calls (wrap64 ((l0.length : Int) / 2)) x6_4 t275 _ A20.out).mono ?_); rintro e w' ⟨rfl, ⟨nd, rfl⟩⟩; (try first | exact ⟨rfl, _, World.drewN_drewN _ _ _⟩ | exact ⟨rfl, _, Eq.trans (World.drewN_drewN _ _ _) (congrArg (World.drewN _) (Nat.add_assoc _ _ _))⟩); have p276 : 0 ≤ (x6_4 : Int) := of_decide_eq_true (by first | (with_reducible assumption) | assumption); have q276 : x6_4 < (l0.length : Int) := of_decide_eq_true (by first | (with_reducible assumption) | assumption); obtain ⟨ad276, e276, hx276_0⟩ := Kd.at_int HR0.out x6_4 p276 q276; obtain rfl : ad273 = ad276 := (by injection e276); replace p276 := eq_true p276; replace q276 := eq_true q276) | (go_at_call 53; (with_reducible refine (pomaderef07_border.calls (wrap64 ((l0.length : Int) / 2)) (rd l0 x6_4) t277 _ A22.out).mono ?_); rintro e w' ⟨rfl, ⟨nd, rfl⟩⟩; (try first | exact ⟨rfl, _, World.drewN_drewN _ _ _⟩ | exact ⟨rfl, _, Eq.trans (World.drewN_drewN _ _ _) (congrArg (World.drewN _) (Nat.add_assoc _ _ _))⟩))))
                    go_roundg k4
                    case measure => have := HJ2.out; have := HK2.out; have := HK3.out; have := HK4.out; omega
                    case rel => exact ⟨(wrap64 (x6_4 + 1)), (by first | rfl | (simp; done) | (simp [*]; done)), H', ⟨by have := HJ2.out; have := HK2.out; have := HK3.out; have := HK4.out; omega⟩, by repeat (first | exact Drawn0.refl _ | apply Drawn0.step)⟩
                  ·rw [if_neg c24] at H
                   have c24b0 : decide (t275 < t274) = false := decide_eq_false c24
                   clear c24
                   have H' := Aside0.mk H
                   clear H
                   go_wp2_with (first | (go_at_call 53; (with_reducible refine (pomaderef07_border.calls (wrap64 ((l0.length : Int) / 2)) x5_3 t272 _ A16.out).mono ?_); rintro e w' ⟨rfl, ⟨nd, rfl⟩⟩; (try first | exact ⟨rfl, _, World.drewN_drewN _ _ _⟩ | exact ⟨rfl, _, Eq.trans (World.drewN_drewN _ _ _) (congrArg (World.drewN _) (Nat.add_assoc _ _ _))⟩); have p273 : 0 ≤ (x5_3 : Int) := of_decide_eq_true (by first | (with_reducible assumption) | assumption); have q273 : x5_3 < (l0.length : Int) := of_decide_eq_true (by first | (with_reducible assumption) | assumption); obtain ⟨ad273, e273, hx273_0⟩ := Kd.at_int HR0.out x5_3 p273 q273; cases e273; replace p273 := eq_true p273; replace q273 := eq_true q273) | (go_at_call 53; (with_reducible refine (pomaderef07_border.calls (wrap64 ((l0.length : Int) / 2)) (rd l0 x5_3) t274 _ A19.out).mono ?_); rintro e w' ⟨rfl, ⟨nd, rfl⟩⟩; (try first | exact ⟨rfl, _, World.drewN_drewN _ _ _⟩ | exact ⟨rfl, _, Eq.trans (World.drewN_drewN _ _ _) (congrArg (World.drewN _) (Nat.add_assoc _ _ _))⟩)) | (go_at_call 53; (with_reducible refine (pomaderef07_border.calls (wrap64 ((l0.length : Int) / 2)) x6_4 t275 _ A20.out).mono ?_); rintro e w' ⟨rfl, ⟨nd, rfl⟩⟩; (try first | exact ⟨rfl, _, World.drewN_drewN _ _ _⟩ | exact ⟨rfl, _, Eq.trans (World.drewN_drewN _ _ _) (congrArg (World.drewN _) (Nat.add_assoc _ _ _))⟩); have p276 : 0 ≤ (x6_4 : Int) := of_decide_eq_true (by first | (with_reducible assumption) | assumption); have q276 : x6_4 < (l0.length : Int) := of_decide_eq_true (by first | (with_reducible assumption) | assumption); obtain ⟨ad276, e276, hx276_0⟩ := Kd.at_int HR0.out x6_4 p276 q276; obtain rfl : ad273 = ad276 := (by injection e276); replace p276 := eq_true p276; replace q276 := eq_true q276) | (go_at_call 53; (with_reducible refine (pomaderef07_border.calls (wrap64 ((l0.length : Int) / 2)) (rd l0 x6_4) t277 _ A22.out).mono ?_); rintro e w' ⟨rfl, ⟨nd, rfl⟩⟩; (try first | exact ⟨rfl, _, World.drewN_drewN _ _ _⟩ | exact ⟨rfl, _, Eq.trans (World.drewN_drewN _ _ _) (congrArg (World.drewN _) (Nat.add_assoc _ _ _))⟩)))
                   repeat (go_quiet (first | (go_at_call 53; (with_reducible refine (pomaderef07_border.calls (wrap64 ((l0.length : Int) / 2)) x5_3 t272 _ A16.out).mono ?_); rintro e w' ⟨rfl, ⟨nd, rfl⟩⟩; (try first | exact ⟨rfl, _, World.drewN_drewN _ _ _⟩ | exact ⟨rfl, _, Eq.trans (World.drewN_drewN _ _ _) (congrArg (World.drewN _) (Nat.add_assoc _ _ _))⟩); have p273 : 0 ≤ (x5_3 : Int) := of_decide_eq_true (by first | (with_reducible assumption) | assumption); have q273 : x5_3 < (l0.length : Int) := of_decide_eq_true (by first | (with_reducible assumption) | assumption); obtain ⟨ad273, e273, hx273_0⟩ := Kd.at_int HR0.out x5_3 p273 q273; cases e273; replace p273 := eq_true p273; replace q273 := eq_true q273) | (go_at_call 53; (with_reducible refine (pomaderef07_border.calls (wrap64 ((l0.length : Int) / 2)) (rd l0 x5_3) t274 _ A19.out).mono ?_); rintro e w' ⟨rfl, ⟨nd, rfl⟩⟩; (try first | exact ⟨rfl, _, World.drewN_drewN _ _ _⟩ | exact ⟨rfl, _, Eq.trans (World.drewN_drewN _ _ _) (congrArg (World.drewN _) (Nat.add_assoc _ _ _))⟩)) | (go_at_call 53; (with_reducible refine (pomaderef07_border.calls (wrap64 ((l0.length : Int) / 2)) x6_4 t275 _ A20.out).mono ?_); rintro e w' ⟨rfl, ⟨nd, rfl⟩⟩; (try first | exact ⟨rfl, _, World.drewN_drewN _ _ _⟩ | exact ⟨rfl, _, Eq.trans (World.drewN_drewN _ _ _) (congrArg (World.drewN _) (Nat.add_assoc _ _ _))⟩); have p276 : 0 ≤ (x6_4 : Int) := of_decide_eq_true (by first | (with_reducible assumption) | assumption); have q276 : x6_4 < (l0.length : Int) := of_decide_eq_true (by first | (with_reducible assumption) | assumption); obtain ⟨ad276, e276, hx276_0⟩ := Kd.at_int HR0.out x6_4 p276 q276; obtain rfl : ad273 = ad276 := (by injection e276); replace p276 := eq_true p276; replace q276 := eq_true q276) | (go_at_call 53; (with_reducible refine (pomaderef07_border.calls (wrap64 ((l0.length : Int) / 2)) (rd l0 x6_4) t277 _ A22.out).mono ?_); rintro e w' ⟨rfl, ⟨nd, rfl⟩⟩; (try first | exact ⟨rfl, _, World.drewN_drewN _ _ _⟩ | exact ⟨rfl, _, Eq.trans (World.drewN_drewN _ _ _) (congrArg (World.drewN _) (Nat.add_assoc _ _ _))⟩))); try go_wp2_with (first | (go_at_call 53; (with_reducible refine (pomaderef07_border.calls (wrap64 ((l0.length : Int) / 2)) x5_3 t272 _ A16.out).mono ?_); rintro e w' ⟨rfl, ⟨nd, rfl⟩⟩; (try first | exact ⟨rfl, _, World.drewN_drewN _ _ _⟩ | exact ⟨rfl, _, Eq.trans (World.drewN_drewN _ _ _) (congrArg (World.drewN _) (Nat.add_assoc _ _ _))⟩); have p273 : 0 ≤ (x5_3 : Int) := of_decide_eq_true (by first | (with_reducible assumption) | assumption); have q273 : x5_3 < (l0.length : Int) := of_decide_eq_true (by first | (with_reducible assumption) | assumption); obtain ⟨ad273, e273, hx273_0⟩ := Kd.at_int HR0.out x5_3 p273 q273; cases e273; replace p273 := eq_true p273; replace q273 := eq_true q273) | (go_at_call 53; (with_reducible refine (pomaderef07_border.calls (wrap64 ((l0.length : Int) / 2)) (rd l0 x5_3) t274 _ A19.out).mono ?_); rintro e w' ⟨rfl, ⟨nd, rfl⟩⟩; (try first | exact ⟨rfl, _, World.drewN_drewN _ _ _⟩ | exact ⟨rfl, _, Eq.trans (World.drewN_drewN _ _ _) (congrArg (World.drewN _) (Nat.add_assoc _ _ _))⟩)) | (go_at_call 53; (with_reducible refine (pomaderef07_border.calls (wrap64 ((l0.length : Int) / 2)) x6_4 t275 _ A20.out).mono ?_); rintro e w' ⟨rfl, ⟨nd, rfl⟩⟩; (try first | exact ⟨rfl, _, World.drewN_drewN _ _ _⟩ | exact ⟨rfl, _, Eq.trans (World.drewN_drewN _ _ _) (congrArg (World.drewN _) (Nat.add_assoc _ _ _))⟩); have p276 : 0 ≤ (x6_4 : Int) := of_decide_eq_true (by first | (with_reducible assumption) | assumption); have q276 : x6_4 < (l0.length : Int) := of_decide_eq_true (by first | (with_reducible assumption) | assumption); obtain ⟨ad276, e276, hx276_0⟩ := Kd.at_int HR0.out x6_4 p276 q276; obtain rfl : ad273 = ad276 := (by injection e276); replace p276 := eq_true p276; replace q276 := eq_true q276) | (go_at_call 53; (with_reducible refine (pomaderef07_border.calls (wrap64 ((l0.length : Int) / 2)) (rd l0 x6_4) t277 _ A22.out).mono ?_); rintro e w' ⟨rfl, ⟨nd, rfl⟩⟩; (try first | exact ⟨rfl, _, World.drewN_drewN _ _ _⟩ | exact ⟨rfl, _, Eq.trans (World.drewN_drewN _ _ _) (congrArg (World.drewN _) (Nat.add_assoc _ _ _))⟩))))
                   go_roundg k4
                   case measure => have := HJ2.out; have := HK2.out; have := HK3.out; have := HK4.out; omega
                   case rel => exact ⟨(wrap64 (x6_4 + 1)), (by first | rfl | (simp; done) | (simp [*]; done)), H', ⟨by have := HJ2.out; have := HK2.out; have := HK3.out; have := HK4.out; omega⟩, by repeat (first | exact Drawn0.refl _ | apply Drawn0.step)⟩
                 ·rw [if_neg c23] at H
                  have c23b0 : decide (t272 < t275) = false := decide_eq_false c23
                  clear c23
                  have H' := Aside0.mk H
                  clear H
                  go_wp2_with (first | (go_at_call 53; (with_reducible refine (pomaderef07_border.calls (wrap64 ((l0.length : Int) / 2)) x5_3 t272 _ A16.out).mono ?_); rintro e w' ⟨rfl, ⟨nd, rfl⟩⟩; (try first | exact ⟨rfl, _, World.drewN_drewN _ _ _⟩ | exact ⟨rfl, _, Eq.trans (World.drewN_drewN _ _ _) (congrArg (World.drewN _) (Nat.add_assoc _ _ _))⟩); have p273 : 0 ≤ (x5_3 : Int) := of_decide_eq_true (by first | (with_reducible assumption) | assumption); have q273 : x5_3 < (l0.length : Int) := of_decide_eq_true (by first | (with_reducible assumption) | assumption); obtain ⟨ad273, e273, hx273_0⟩ := Kd.at_int HR0.out x5_3 p273 q273; cases e273; replace p273 := eq_true p273; replace q273 := eq_true q273) | (go_at_call 53; (with_reducible refine (pomaderef07_border.calls (wrap64 ((l0.length : Int) / 2)) (rd l0 x5_3) t274 _ A19.out).mono ?_); rintro e w' ⟨rfl, ⟨nd, rfl⟩⟩; (try first | exact ⟨rfl, _, World.drewN_drewN _ _ _⟩ | exact ⟨rfl, _, Eq.trans (World.drewN_drewN _ _ _) (congrArg (World.drewN _) (Nat.add_assoc _ _ _))⟩)) | (go_at_call 53; (with_reducible refine (pomaderef07_border.calls (wrap64 ((l0.length : Int) / 2)) x6_4 t275 _ A20.out).mono ?_); rintro e w' ⟨rfl, ⟨nd, rfl⟩⟩; (try first | exact ⟨rfl, _, World.drewN_drewN _ _ _⟩ | exact ⟨rfl, _, Eq.trans (World.drewN_drewN _ _ _) (congrArg (World.drewN _) (Nat.add_assoc _ _ _))⟩); have p276 : 0 ≤ (x6_4 : Int) := of_decide_eq_true (by first | (with_reducible assumption) | assumption); have q276 : x6_4 < (l0.length : Int) := of_decide_eq_true (by first | (with_reducible assumption) | assumption); obtain ⟨ad276, e276, hx276_0⟩ := Kd.at_int HR0.out x6_4 p276 q276; obtain rfl : ad273 = ad276 := (by injection e276); replace p276 := eq_true p276; replace q276 := eq_true q276) | (go_at_call 53; (with_reducible refine (pomaderef07_border.calls (wrap64 ((l0.length : Int) / 2)) (rd l0 x6_4) t277 _ A22.out).mono ?_); rintro e w' ⟨rfl, ⟨nd, rfl⟩⟩; (try first | exact ⟨rfl, _, World.drewN_drewN _ _ _⟩ | exact ⟨rfl, _, Eq.trans (World.drewN_drewN _ _ _) (congrArg (World.drewN _) (Nat.add_assoc _ _ _))⟩)))
                  repeat (go_quiet (first | (go_at_call 53; (with_reducible refine (pomaderef07_border.calls (wrap64 ((l0.length : Int) / 2)) x5_3 t272 _ A16.out).mono ?_); rintro e w' ⟨rfl, ⟨nd, rfl⟩⟩; (try first | exact ⟨rfl, _, World.drewN_drewN _ _ _⟩ | exact ⟨rfl, _, Eq.trans (World.drewN_drewN _ _ _) (congrArg (World.drewN _) (Nat.add_assoc _ _ _))⟩); have p273 : 0 ≤ (x5_3 : Int) := of_decide_eq_true (by first | (with_reducible assumption) | assumption); have q273 : x5_3 < (l0.length : Int) := of_decide_eq_true (by first | (with_reducible assumption) | assumption); obtain ⟨ad273, e273, hx273_0⟩ := Kd.at_int HR0.out x5_3 p273 q273; cases e273; replace p273 := eq_true p273; replace q273 := eq_true q273) | (go_at_call 53; (with_reducible refine (pomaderef07_border.calls (wrap64 ((l0.length : Int) / 2)) (rd l0 x5_3) t274 _ A19.out).mono ?_); rintro e w' ⟨rfl, ⟨nd, rfl⟩⟩; (try first | exact ⟨rfl, _, World.drewN_drewN _ _ _⟩ | exact ⟨rfl, _, Eq.trans (World.drewN_drewN _ _ _) (congrArg (World.drewN _) (Nat.add_assoc _ _ _))⟩)) | (go_at_call 53; (with_reducible refine (pomaderef07_border.calls (wrap64 ((l0.length : Int) / 2)) x6_4 t275 _ A20.out).mono ?_); rintro e w' ⟨rfl, ⟨nd, rfl⟩⟩; (try first | exact ⟨rfl, _, World.drewN_drewN _ _ _⟩ | exact ⟨rfl, _, Eq.trans (World.drewN_drewN _ _ _) (congrArg (World.drewN _) (Nat.add_assoc _ _ _))⟩); have p276 : 0 ≤ (x6_4 : Int) := of_decide_eq_true (by first | (with_reducible assumption) | assumption); have q276 : x6_4 < (l0.length : Int) := of_decide_eq_true (by first | (with_reducible assumption) | assumption); obtain ⟨ad276, e276, hx276_0⟩ := Kd.at_int HR0.out x6_4 p276 q276; obtain rfl : ad273 = ad276 := (by injection e276); replace p276 := eq_true p276; replace q276 := eq_true q276) | (go_at_call 53; (with_reducible refine (pomaderef07_border.calls (wrap64 ((l0.length : Int) / 2)) (rd l0 x6_4) t277 _ A22.out).mono ?_); rintro e w' ⟨rfl, ⟨nd, rfl⟩⟩; (try first | exact ⟨rfl, _, World.drewN_drewN _ _ _⟩ | exact ⟨rfl, _, Eq.trans (World.drewN_drewN _ _ _) (congrArg (World.drewN _) (Nat.add_assoc _ _ _))⟩))); try go_wp2_with (first | (go_at_call 53; (with_reducible refine (pomaderef07_border.calls (wrap64 ((l0.length : Int) / 2)) x5_3 t272 _ A16.out).mono ?_); rintro e w' ⟨rfl, ⟨nd, rfl⟩⟩; (try first | exact ⟨rfl, _, World.drewN_drewN _ _ _⟩ | exact ⟨rfl, _, Eq.trans (World.drewN_drewN _ _ _) (congrArg (World.drewN _) (Nat.add_assoc _ _ _))⟩); have p273 : 0 ≤ (x5_3 : Int) := of_decide_eq_true (by first | (with_reducible assumption) | assumption); have q273 : x5_3 < (l0.length : Int) := of_decide_eq_true (by first | (with_reducible assumption) | assumption); obtain ⟨ad273, e273, hx273_0⟩ := Kd.at_int HR0.out x5_3 p273 q273; cases e273; replace p273 := eq_true p273; replace q273 := eq_true q273) | (go_at_call 53; (with_reducible refine (pomaderef07_border.calls (wrap64 ((l0.length : Int) / 2)) (rd l0 x5_3) t274 _ A19.out).mono ?_); rintro e w' ⟨rfl, ⟨nd, rfl⟩⟩; (try first | exact ⟨rfl, _, World.drewN_drewN _ _ _⟩ | exact ⟨rfl, _, Eq.trans (World.drewN_drewN _ _ _) (congrArg (World.drewN _) (Nat.add_assoc _ _ _))⟩)) | (go_at_call 53; (with_reducible refine (pomaderef07_border.calls (wrap64 ((l0.length : Int) / 2)) x6_4 t275 _ A20.out).mono ?_); rintro e w' ⟨rfl, ⟨nd, rfl⟩⟩; (try first | exact ⟨rfl, _, World.drewN_drewN _ _ _⟩ | exact ⟨rfl, _, Eq.trans (World.drewN_drewN _ _ _) (congrArg (World.drewN _) (Nat.add_assoc _ _ _))⟩); have p276 : 0 ≤ (x6_4 : Int) := of_decide_eq_true (by first | (with_reducible assumption) | assumption); have q276 : x6_4 < (l0.length : Int) := of_decide_eq_true (by first | (with_reducible assumption) | assumption); obtain ⟨ad276, e276, hx276_0⟩ := Kd.at_int HR0.out x6_4 p276 q276; obtain rfl : ad273 = ad276 := (by injection e276); replace p276 := eq_true p276; replace q276 := eq_true q276) | (go_at_call 53; (with_reducible refine (pomaderef07_border.calls (wrap64 ((l0.length : Int) / 2)) (rd l0 x6_4) t277 _ A22.out).mono ?_); rintro e w' ⟨rfl, ⟨nd, rfl⟩⟩; (try first | exact ⟨rfl, _, World.drewN_drewN _ _ _⟩ | exact ⟨rfl, _, Eq.trans (World.drewN_drewN _ _ _) (congrArg (World.drewN _) (Nat.add_assoc _ _ _))⟩))))
                  go_roundg k4
                  case measure => have := HJ2.out; have := HK2.out; have := HK3.out; have := HK4.out; omega
                  case rel => exact ⟨(wrap64 (x6_4 + 1)), (by first | rfl | (simp; done) | (simp [*]; done)), H', ⟨by have := HJ2.out; have := HK2.out; have := HK3.out; have := HK4.out; omega⟩, by repeat (first | exact Drawn0.refl _ | apply Drawn0.step)⟩
                ·rw [if_neg c21] at H
                 exact absurd H (by simp)
               ·rw [if_neg c18] at H
                exact absurd H (by simp)
              ·rw [if_neg c17] at H
               exact absurd H (by simp)
             ·rw [if_neg c15] at H
              have c15b0 : decide (x6_4 < (l0.length : Int)) = false := decide_eq_false c15
              clear c15
              have H' := Aside0.mk H
              clear H
              go_wp2
              repeat (go_quiet (fail); try go_wp2)
              go_roundg k4
              case measure => have := HJ2.out; have := HK2.out; have := HK3.out; have := HK4.out; omega
              case rel => exact ⟨(wrap64 (x5_3 + 1)), (by first | rfl | (simp; done) | (simp [*]; done)), H', ⟨by have := HJ2.out; have := HK2.out; have := HK3.out; have := HK4.out; omega⟩, by repeat (first | exact Drawn0.refl _ | apply Drawn0.step)⟩
          ·rw [if_neg c14] at H
           have c14b0 : decide (x5_3 < (l0.length : Int)) = false := decide_eq_false c14
           clear c14
           obtain rfl := Option.some.inj H
           go_wp2
           repeat (go_quiet (fail); try go_wp2)
           go_ret
           exact ⟨by first | rfl | (simp; done) | (simp [*]; done), by repeat (first | exact Drawn0.refl _ | apply Drawn0.step)⟩
end Go.Proofs.Ytjfkompfkgjdaaa.PC
end
section
namespace Go.Proofs.Ytjfkompfkgjdaaa.PC
open Go.RowKit Go.Proofs.YtjfkompfkgjdaaaW.PrintWords Go.Proofs.YtjfkompfkgjdaaaW.PrintLast Go.Proofs.YtjfkompfkgjdaaaW.PrintMore
attribute [local go_sem] max2_int min2_int max_two min_two max_three min_three max_four min_four   -- for this text's walks alone
set_option linter.unusedVariables false
set_option linter.unusedSimpArgs false
/-! ### pomaderef07_place: function 56 -/
mutual
def pomaderef07_place.l0 : Nat → List Int → Int → Int → Int → Option (Int)
 | 0, _, _, _, _ => none
 | k + 1, x0, x3, x4, x5 => if x5 < (wrap64 (2 * x3)) then (if x5 ≥ x3 then (pomaderef07_place.j1 k x0 x3 x4 x5 (wrap64 ((wrap64 ((wrap64 (3 * x3)) - 1)) - x5))) else (pomaderef07_place.j1 k x0 x3 x4 x5 x5)) else (some x4)
def pomaderef07_place.j1 : Nat → List Int → Int → Int → Int → Int → Option (Int)
 | 0, _, _, _, _, _ => none
 | k + 1, x0, x3, x4, x5, x6 => if 0 ≤ x6 then (if x6 < (x0.length : Int) then ((pomaderef07_border.f x3 (rd x0 x6)).bind fun t391 => ((pomaderef07_border.f x3 x6).bind fun t392 => (if t391 < t392 then (pomaderef07_place.l0 k x0 x3 (wrap64 ((wrap64 (2 * x4)) + 1)) (wrap64 (x5 + 1))) else (pomaderef07_place.l0 k x0 x3 (wrap64 (2 * x4)) (wrap64 (x5 + 1)))))) else (none)) else (none)
end
def pomaderef07_place.f (k : Nat) (l0 : List Int) : Option (Int) := pomaderef07_place.l0 k l0 (wrap64 ((l0.length : Int) / 2)) 0 0
theorem pomaderef07_place.mono_l : ∀ k, (∀ y0 y1 y2 y3, LeO (pomaderef07_place.l0 k y0 y1 y2 y3) (pomaderef07_place.l0 (k + 1) y0 y1 y2 y3)) ∧ (∀ y0 y1 y2 y3 y4, LeO (pomaderef07_place.j1 k y0 y1 y2 y3 y4) (pomaderef07_place.j1 (k + 1) y0 y1 y2 y3 y4))
 | 0 => ⟨fun _ _ _ _ r h => by simp [pomaderef07_place.l0] at h, fun _ _ _ _ _ r h => by simp [pomaderef07_place.j1] at h⟩
 | k + 1 => by
  obtain ⟨ih0, ih1⟩ := pomaderef07_place.mono_l k
  refine ⟨?_, ?_⟩
  ·intro y0 y1 y2 y3
   unfold pomaderef07_place.l0
   repeat' first
   | (with_reducible exact ih0 _ _ _ _)
   | (with_reducible exact ih1 _ _ _ _ _)
   | (with_reducible exact LeO.refl _)
   | (with_reducible exact LeO.none _)
   | (with_reducible refine LeO.ite ?_ ?_)
   | (with_reducible refine LeO.bind ?_ (fun _ => ?_))
   | exact ih0 _ _ _ _
   | exact ih1 _ _ _ _ _
   | exact LeO.none _
   | refine LeO.ite ?_ ?_
   | refine LeO.bind ?_ (fun _ => ?_)
  ·intro y0 y1 y2 y3 y4
   unfold pomaderef07_place.j1
   repeat' first
   | (with_reducible exact ih0 _ _ _ _)
   | (with_reducible exact ih1 _ _ _ _ _)
   | (with_reducible exact LeO.refl _)
   | (with_reducible exact LeO.none _)
   | (with_reducible refine LeO.ite ?_ ?_)
   | (with_reducible refine LeO.bind ?_ (fun _ => ?_))
   | exact ih0 _ _ _ _
   | exact ih1 _ _ _ _ _
   | exact LeO.none _
   | refine LeO.ite ?_ ?_
   | refine LeO.bind ?_ (fun _ => ?_)
theorem pomaderef07_place.mono : ∀ a0 k, LeO (pomaderef07_place.f k a0) (pomaderef07_place.f (k + 1) a0) := by
 intro a0 k
 obtain ⟨ih0, ih1⟩ := pomaderef07_place.mono_l k
 unfold pomaderef07_place.f
 repeat' first
   | (with_reducible exact ih0 _ _ _ _)
   | (with_reducible exact ih1 _ _ _ _ _)
   | (with_reducible exact LeO.refl _)
   | (with_reducible exact LeO.none _)
   | (with_reducible refine LeO.ite ?_ ?_)
   | (with_reducible refine LeO.bind ?_ (fun _ => ?_))
   | exact ih0 _ _ _ _
   | exact ih1 _ _ _ _ _
   | exact LeO.none _
   | refine LeO.ite ?_ ?_
   | refine LeO.bind ?_ (fun _ => ?_)
set_option maxHeartbeats 8000000 in
set_option maxRecDepth 100000 in
theorem pomaderef07_place.calls (k : Nat) (A0 : Option Addr) (c0 : Nat) (l0 : List Int) (r : Int) (w : World) (hr0 : Kd.C (Kd.int .i64) w A0 l0.length l0) (hc0 : l0.length ≤ c0) (h : pomaderef07_place.f k l0 = some r) :
  Calls Try.prog 56 #[.slice A0 l0.length c0] w fun e w' => e = .returned (.int .i64 r) ∧ Drawn0 w w' := by
 have HR0 := Aside0.mk hr0
 have HC0 := Aside0.mk hc0
 clear hr0 hc0
 have H : (pomaderef07_place.l0 k l0 (wrap64 ((l0.length : Int) / 2)) 0 0) = some r := h
 clear h
 have H' := Aside0.mk H
 clear H
 go_enter Try.func56, Try.ntmps56
 go_wp2
 go_loopg [4, 5] k (fun kq v4 v5 w' => ∃ (x4_1 : Int) (x5_1 : Int), v4 = .int .i64 x4_1 ∧ v5 = .int .i64 x5_1 ∧ Aside0 (pomaderef07_place.l0 kq l0 (wrap64 ((l0.length : Int) / 2)) x4_1 x5_1 = some r) ∧ Aside0 (kq ≤ k) ∧ Drawn0 w w')
 case atStart => exact ⟨(0), (0), (by first | rfl | (simp; done) | (simp [*]; done)), (by first | rfl | (simp; done) | (simp [*]; done)), H', ⟨Nat.le_refl _⟩, by repeat (first | exact Drawn0.refl _ | apply Drawn0.step)⟩
 case round =>
  clear H'
  obtain ⟨x4_1, x5_1, rfl, rfl, HA, HK1, ⟨m1, rfl⟩⟩ := hrel
  cases gk with
  | zero => exact absurd HA.out (by simp [pomaderef07_place.l0])
  | succ k1 =>
   have H := HA.out
   clear HA
   simp only [pomaderef07_place.l0] at H
   by_cases c2 : x5_1 < (wrap64 (2 * (wrap64 ((l0.length : Int) / 2))))
   ·rw [if_pos c2] at H
    have c2b0 : decide (x5_1 < (wrap64 (2 * (wrap64 ((l0.length : Int) / 2))))) = true := decide_eq_true c2
    clear c2
    have HC3 := Aside0.mk H
    clear H
    go_upto_if 19 with (fail)
    go_cut [6] (fun v6 wc => ∃ (kq : Nat) (x6_2 : Int), v6 = .int .i64 x6_2 ∧ Aside0 (pomaderef07_place.j1 kq l0 (wrap64 ((l0.length : Int) / 2)) x4_1 x5_1 x6_2 = some r) ∧ Aside0 (kq ≤ k1) ∧ Drawn0 w wc)
    case first =>
     have H := HC3.out
     clear HC3
     by_cases c4 : x5_1 ≥ (wrap64 ((l0.length : Int) / 2))
     ·rw [if_pos c4] at H
      have c4b0 : decide ((wrap64 ((l0.length : Int) / 2)) ≤ x5_1) = true := decide_eq_true c4
      clear c4
      (first | rw [c4b0] | (simp only [i64_w, i32_w]; rw [c4b0]) | skip)
      have H' := Aside0.mk H
      clear H
      go_wp2
      go_meet
      case rel => exact ⟨_, (wrap64 ((wrap64 ((wrap64 (3 * (wrap64 ((l0.length : Int) / 2)))) - 1)) - x5_1)), (by first | rfl | (simp; done) | (simp [*]; done)), H', ⟨by have := HK1.out; first | omega | exact Nat.le_refl _⟩, by repeat (first | exact Drawn0.refl _ | apply Drawn0.step)⟩
     ·rw [if_neg c4] at H
      have c4b0 : decide ((wrap64 ((l0.length : Int) / 2)) ≤ x5_1) = false := decide_eq_false c4
      clear c4
      (first | rw [c4b0] | (simp only [i64_w, i32_w]; rw [c4b0]) | skip)
      have H' := Aside0.mk H
      clear H
      go_wp2
      go_meet
      case rel => exact ⟨_, (x5_1), (by first | rfl | (simp; done) | (simp [*]; done)), H', ⟨by have := HK1.out; first | omega | exact Nat.le_refl _⟩, by repeat (first | exact Drawn0.refl _ | apply Drawn0.step)⟩
    case rest =>
     clear HC3
     try clear c2
     try clear c2b0
     try clear p2
     try clear c4
     try clear c4b0
     obtain ⟨kq, x6_2, rfl, HA, HJ2, ⟨mc2, rfl⟩⟩ := hcut
     cases kq with
     | zero => exact absurd HA.out (by simp [pomaderef07_place.j1])
     | succ kj2 =>
      have H := HA.out
      clear HA
      simp only [pomaderef07_place.j1] at H
      by_cases c5 : 0 ≤ x6_2
      ·rw [if_pos c5] at H
       have c5b0 : decide (0 ≤ x6_2) = true := decide_eq_true c5
       clear c5
       by_cases c6 : x6_2 < (l0.length : Int)
       ·rw [if_pos c6] at H
        have c6b0 : decide (x6_2 < (l0.length : Int)) = true := decide_eq_true c6
        clear c6
        replace H := Option.bind_eq_some_iff.mp H
        obtain ⟨t391, A70, H⟩ := H
        replace H : ((pomaderef07_border.f (wrap64 ((l0.length : Int) / 2)) x6_2).bind fun t392 => (if t391 < t392 then (pomaderef07_place.l0 kj2 l0 (wrap64 ((l0.length : Int) / 2)) (wrap64 ((wrap64 (2 * x4_1)) + 1)) (wrap64 (x5_1 + 1))) else (pomaderef07_place.l0 kj2 l0 (wrap64 ((l0.length : Int) / 2)) (wrap64 (2 * x4_1)) (wrap64 (x5_1 + 1))))) = some r := H
        have A7 := Aside0.mk A70
        clear A70
        replace H := Option.bind_eq_some_iff.mp H
        obtain ⟨t392, A80, H⟩ := H
        replace H : (if t391 < t392 then (pomaderef07_place.l0 kj2 l0 (wrap64 ((l0.length : Int) / 2)) (wrap64 ((wrap64 (2 * x4_1)) + 1)) (wrap64 (x5_1 + 1))) else (pomaderef07_place.l0 kj2 l0 (wrap64 ((l0.length : Int) / 2)) (wrap64 (2 * x4_1)) (wrap64 (x5_1 + 1)))) = some r := H
        have A8 := Aside0.mk A80
        clear A80
        by_cases c9 : t391 < t392
        ·rw [if_pos c9] at H
         have c9b0 : decide (t391 < t392) = true := decide_eq_true c9
         clear c9
         have H' := Aside0.mk H
         clear H
         have p390 : 0 ≤ (x6_2 : Int) := of_decide_eq_true (by first | (with_reducible assumption) | assumption)
         have q390 : x6_2 < (l0.length : Int) := of_decide_eq_true (by first | (with_reducible assumption) | assumption)
         obtain ⟨ad390, e390, hx390_0⟩ := Kd.at_int HR0.out x6_2 p390 q390
         cases e390
         replace p390 := eq_true p390
         replace q390 := eq_true q390
         go_wp2_with (first | ((with_reducible refine gate_callee (f := 53) rfl ?_); refine goesL_ (some 32) rfl rfl Try.func53 (by kernel_rfl) rfl #[.int .i64 (wrap64 ((l0.length : Int) / 2)), .int .i64 (rd l0 x6_2)] rfl (by (try simp only [List.map_toArray, List.map_cons, List.map_nil]); first | done | rfl | (simp only [List.length_drop, List.length_take]; rfl)) ?_; (with_reducible refine (pomaderef07_border.calls (wrap64 ((l0.length : Int) / 2)) (rd l0 x6_2) t391 _ A7.out).mono ?_); rintro e w' ⟨rfl, ⟨nd, rfl⟩⟩; refine ⟨_, rfl, ?_⟩) | ((with_reducible refine gate_callee (f := 53) rfl ?_); refine goesL_ (some 35) rfl rfl Try.func53 (by kernel_rfl) rfl #[.int .i64 (wrap64 ((l0.length : Int) / 2)), .int .i64 x6_2] rfl (by (try simp only [List.map_toArray, List.map_cons, List.map_nil]); first | done | rfl | (simp only [List.length_drop, List.length_take]; rfl)) ?_; (with_reducible refine (pomaderef07_border.calls (wrap64 ((l0.length : Int) / 2)) x6_2 t392 _ A8.out).mono ?_); rintro e w' ⟨rfl, ⟨nd, rfl⟩⟩; refine ⟨_, rfl, ?_⟩))
         go_roundg kj2
         case measure => have := HK1.out; have := HJ2.out; omega
         case rel => exact ⟨(wrap64 ((wrap64 (2 * x4_1)) + 1)), (wrap64 (x5_1 + 1)), (by first | rfl | (simp; done) | (simp [*]; done)), (by first | rfl | (simp; done) | (simp [*]; done)), H', ⟨by have := HK1.out; have := HJ2.out; omega⟩, by repeat (first | exact Drawn0.refl _ | apply Drawn0.step)⟩
        ·rw [if_neg c9] at H
         have c9b0 : decide (t391 < t392) = false := decide_eq_false c9
         clear c9
         have H' := Aside0.mk H
         clear H
         have p390 : 0 ≤ (x6_2 : Int) := of_decide_eq_true (by first | (with_reducible assumption) | assumption)
         have q390 : x6_2 < (l0.length : Int) := of_decide_eq_true (by first | (with_reducible assumption) | assumption)
         obtain ⟨ad390, e390, hx390_0⟩ := Kd.at_int HR0.out x6_2 p390 q390
         cases e390
         replace p390 := eq_true p390
         replace q390 := eq_true q390
         go_wp2_with (first | ((with_reducible refine gate_callee (f := 53) rfl ?_); refine goesL_ (some 32) rfl rfl Try.func53 (by kernel_rfl) rfl #[.int .i64 (wrap64 ((l0.length : Int) / 2)), .int .i64 (rd l0 x6_2)] rfl (by (try simp only [List.map_toArray, List.map_cons, List.map_nil]); first | done | rfl | (simp only [List.length_drop, List.length_take]; rfl)) ?_; (with_reducible refine (pomaderef07_border.calls (wrap64 ((l0.length : Int) / 2)) (rd l0 x6_2) t391 _ A7.out).mono ?_); rintro e w' ⟨rfl, ⟨nd, rfl⟩⟩; refine ⟨_, rfl, ?_⟩) | ((with_reducible refine gate_callee (f := 53) rfl ?_); refine goesL_ (some 35) rfl rfl Try.func53 (by kernel_rfl) rfl #[.int .i64 (wrap64 ((l0.length : Int) / 2)), .int .i64 x6_2] rfl (by (try simp only [List.map_toArray, List.map_cons, List.map_nil]); first | done | rfl | (simp only [List.length_drop, List.length_take]; rfl)) ?_; (with_reducible refine (pomaderef07_border.calls (wrap64 ((l0.length : Int) / 2)) x6_2 t392 _ A8.out).mono ?_); rintro e w' ⟨rfl, ⟨nd, rfl⟩⟩; refine ⟨_, rfl, ?_⟩))
         go_roundg kj2
         case measure => have := HK1.out; have := HJ2.out; omega
         case rel => exact ⟨(wrap64 (2 * x4_1)), (wrap64 (x5_1 + 1)), (by first | rfl | (simp; done) | (simp [*]; done)), (by first | rfl | (simp; done) | (simp [*]; done)), H', ⟨by have := HK1.out; have := HJ2.out; omega⟩, by repeat (first | exact Drawn0.refl _ | apply Drawn0.step)⟩
       ·rw [if_neg c6] at H
        exact absurd H (by simp)
      ·rw [if_neg c5] at H
       exact absurd H (by simp)
   ·rw [if_neg c2] at H
    have c2b0 : decide (x5_1 < (wrap64 (2 * (wrap64 ((l0.length : Int) / 2))))) = false := decide_eq_false c2
    clear c2
    obtain rfl := Option.some.inj H
    go_wp2
    go_ret
    exact ⟨by first | rfl | (simp; done) | (simp [*]; done), by repeat (first | exact Drawn0.refl _ | apply Drawn0.step)⟩
end Go.Proofs.Ytjfkompfkgjdaaa.PC
end
section
namespace Go.Proofs.Ytjfkompfkgjdaaa.PC
open Go.RowKit Go.Proofs.YtjfkompfkgjdaaaW.PrintWords Go.Proofs.YtjfkompfkgjdaaaW.PrintLast Go.Proofs.YtjfkompfkgjdaaaW.PrintMore
attribute [local go_sem] max2_int min2_int max_two min_two max_three min_three max_four min_four   -- for this text's walks alone
set_option linter.unusedVariables false
set_option linter.unusedSimpArgs false
/-! ### pomaderef07_same: function 57 -/
mutual
def pomaderef07_same.l0 : Nat → List Int → List Int → Int → Option (Bool)
 | 0, _, _, _ => none
 | k + 1, x0, x1, x5 => if x5 < (x0.length : Int) then (pomaderef07_same.j1 k x0 x1 x5 (decide (x5 < (x1.length : Int)))) else (pomaderef07_same.j1 k x0 x1 x5 false)
def pomaderef07_same.j1 : Nat → List Int → List Int → Int → Bool → Option (Bool)
 | 0, _, _, _, _ => none
 | k + 1, x0, x1, x5, x15 => if x15 = true then (if 0 ≤ x5 then (if x5 < (x0.length : Int) then (if x5 < (x1.length : Int) then (if (rd x0 x5) = (rd x1 x5) then (pomaderef07_same.l0 k x0 x1 (wrap64 (x5 + 1))) else (some false)) else (none)) else (none)) else (none)) else (some ((x0.length : Int) == (x1.length : Int)))
end
def pomaderef07_same.f (k : Nat) (l0 : List Int) (l1 : List Int) : Option (Bool) := pomaderef07_same.l0 k l0 l1 0
theorem pomaderef07_same.mono_l : ∀ k, (∀ y0 y1 y2, LeO (pomaderef07_same.l0 k y0 y1 y2) (pomaderef07_same.l0 (k + 1) y0 y1 y2)) ∧ (∀ y0 y1 y2 y3, LeO (pomaderef07_same.j1 k y0 y1 y2 y3) (pomaderef07_same.j1 (k + 1) y0 y1 y2 y3))
 | 0 => ⟨fun _ _ _ r h => by simp [pomaderef07_same.l0] at h, fun _ _ _ _ r h => by simp [pomaderef07_same.j1] at h⟩
 | k + 1 => by
  obtain ⟨ih0, ih1⟩ := pomaderef07_same.mono_l k
  refine ⟨?_, ?_⟩
  ·intro y0 y1 y2
   unfold pomaderef07_same.l0
   repeat' first
   | (with_reducible exact ih0 _ _ _)
   | (with_reducible exact ih1 _ _ _ _)
   | (with_reducible exact LeO.refl _)
   | (with_reducible exact LeO.none _)
   | (with_reducible refine LeO.ite ?_ ?_)
   | (with_reducible refine LeO.bind ?_ (fun _ => ?_))
   | exact ih0 _ _ _
   | exact ih1 _ _ _ _
   | exact LeO.none _
   | refine LeO.ite ?_ ?_
   | refine LeO.bind ?_ (fun _ => ?_)
  ·intro y0 y1 y2 y3
   unfold pomaderef07_same.j1
   repeat' first
   | (with_reducible exact ih0 _ _ _)
   | (with_reducible exact ih1 _ _ _ _)
   | (with_reducible exact LeO.refl _)
   | (with_reducible exact LeO.none _)
   | (with_reducible refine LeO.ite ?_ ?_)
   | (with_reducible refine LeO.bind ?_ (fun _ => ?_))
   | exact ih0 _ _ _
   | exact ih1 _ _ _ _
   | exact LeO.none _
   | refine LeO.ite ?_ ?_
   | refine LeO.bind ?_ (fun _ => ?_)
theorem pomaderef07_same.mono : ∀ a0 a1 k, LeO (pomaderef07_same.f k a0 a1) (pomaderef07_same.f (k + 1) a0 a1) := by
 intro a0 a1 k
 obtain ⟨ih0, ih1⟩ := pomaderef07_same.mono_l k
 unfold pomaderef07_same.f
 repeat' first
   | (with_reducible exact ih0 _ _ _)
   | (with_reducible exact ih1 _ _ _ _)
   | (with_reducible exact LeO.refl _)
   | (with_reducible exact LeO.none _)
   | (with_reducible refine LeO.ite ?_ ?_)
   | (with_reducible refine LeO.bind ?_ (fun _ => ?_))
   | exact ih0 _ _ _
   | exact ih1 _ _ _ _
   | exact LeO.none _
   | refine LeO.ite ?_ ?_
   | refine LeO.bind ?_ (fun _ => ?_)
set_option maxHeartbeats 8000000 in
set_option maxRecDepth 100000 in
theorem pomaderef07_same.calls (k : Nat) (A0 : Option Addr) (c0 : Nat) (l0 : List Int) (A1 : Option Addr) (c1 : Nat) (l1 : List Int) (r : Bool) (w : World) (hr0 : Kd.C (Kd.int .i64) w A0 l0.length l0) (hc0 : l0.length ≤ c0) (hr1 : Kd.C (Kd.int .i64) w A1 l1.length l1) (hc1 : l1.length ≤ c1) (h : pomaderef07_same.f k l0 l1 = some r) :
  Calls Try.prog 57 #[.slice A0 l0.length c0, .slice A1 l1.length c1] w fun e w' => e = .returned (.bool r) ∧ Drawn0 w w' := by
 have HR0 := Aside0.mk hr0
 have HC0 := Aside0.mk hc0
 clear hr0 hc0
 have HR1 := Aside0.mk hr1
 have HC1 := Aside0.mk hc1
 clear hr1 hc1
 have H : (pomaderef07_same.l0 k l0 l1 0) = some r := h
 clear h
 have H' := Aside0.mk H
 clear H
 go_enter Try.func57, Try.ntmps57
 go_wp2
 repeat (go_quiet (fail); try go_wp2)
 go_loopg [5] k (fun kq v5 w' => ∃ (x5_1 : Int), v5 = .int .i64 x5_1 ∧ Aside0 (pomaderef07_same.l0 kq l0 l1 x5_1 = some r) ∧ Aside0 (kq ≤ k) ∧ Drawn0 w w')
 case atStart => exact ⟨(0), (by first | rfl | (simp; done) | (simp [*]; done)), H', ⟨Nat.le_refl _⟩, by repeat (first | exact Drawn0.refl _ | apply Drawn0.step)⟩
 case round =>
  clear H'
  try clear c1
  try clear p2
  obtain ⟨x5_1, rfl, HA, HK1, ⟨m1, rfl⟩⟩ := hrel
  cases gk with
  | zero => exact absurd HA.out (by simp [pomaderef07_same.l0])
  | succ k1 =>
   have H := HA.out
   clear HA
   simp only [pomaderef07_same.l0] at H
   have HC3 := Aside0.mk H
   clear H
   go_upto_region 2 with (fail)
   repeat (go_quiet (fail); go_upto_region 2 with (fail))
   go_cut [15] (fun v15 wc => ∃ (kq : Nat) (x15_2 : Bool), v15 = .bool x15_2 ∧ Aside0 (pomaderef07_same.j1 kq l0 l1 x5_1 x15_2 = some r) ∧ Aside0 (kq ≤ k1) ∧ Drawn0 w wc)
   case first =>
    have H := HC3.out
    clear HC3
    by_cases c4 : x5_1 < (l0.length : Int)
    ·rw [if_pos c4] at H
     have c4b0 : decide (x5_1 < (l0.length : Int)) = true := decide_eq_true c4
     clear c4
     (first | rw [c4b0] | (simp only [i64_w, i32_w]; rw [c4b0]) | skip)
     have H' := Aside0.mk H
     clear H
     go_wp2
     repeat (go_quiet (fail); try go_wp2)
     go_meet
     case rel => exact ⟨_, (decide (x5_1 < (l1.length : Int))), (by first | rfl | (simp; done) | (simp [*]; done)), H', ⟨by have := HK1.out; first | omega | exact Nat.le_refl _⟩, by repeat (first | exact Drawn0.refl _ | apply Drawn0.step)⟩
    ·rw [if_neg c4] at H
     have c4b0 : decide (x5_1 < (l0.length : Int)) = false := decide_eq_false c4
     clear c4
     (first | rw [c4b0] | (simp only [i64_w, i32_w]; rw [c4b0]) | skip)
     have H' := Aside0.mk H
     clear H
     go_wp2
     repeat (go_quiet (fail); try go_wp2)
     go_meet
     case rel => exact ⟨_, (false), (by first | rfl | (simp; done) | (simp [*]; done)), H', ⟨by have := HK1.out; first | omega | exact Nat.le_refl _⟩, by repeat (first | exact Drawn0.refl _ | apply Drawn0.step)⟩
   case rest =>
    clear HC3
    try clear c1
    try clear p2
    try clear c4
    try clear c4b0
    try clear p2
    obtain ⟨kq, x15_2, rfl, HA, HJ2, ⟨mc2, rfl⟩⟩ := hcut
    cases kq with
    | zero => exact absurd HA.out (by simp [pomaderef07_same.j1])
    | succ kj2 =>
     have H := HA.out
     clear HA
     simp only [pomaderef07_same.j1] at H
     by_cases c5 : x15_2 = true
     ·subst c5
      have H1 : (if 0 ≤ x5_1 then (if x5_1 < (l0.length : Int) then (if x5_1 < (l1.length : Int) then (if (rd l0 x5_1) = (rd l1 x5_1) then (pomaderef07_same.l0 kj2 l0 l1 (wrap64 (x5_1 + 1))) else (some false)) else (none)) else (none)) else (none)) = some r := by rw [if_pos rfl] at H; exact H
      clear H
      have H := H1
      clear H1
      by_cases c6 : 0 ≤ x5_1
      ·rw [if_pos c6] at H
       have c6b0 : decide (0 ≤ x5_1) = true := decide_eq_true c6
       clear c6
       by_cases c7 : x5_1 < (l0.length : Int)
       ·rw [if_pos c7] at H
        have c7b0 : decide (x5_1 < (l0.length : Int)) = true := decide_eq_true c7
        clear c7
        by_cases c8 : x5_1 < (l1.length : Int)
        ·rw [if_pos c8] at H
         have c8b0 : decide (x5_1 < (l1.length : Int)) = true := decide_eq_true c8
         clear c8
         by_cases c9 : (rd l0 x5_1) = (rd l1 x5_1)
         ·rw [if_pos c9] at H
          have c9b0 : ((rd l0 x5_1) == (rd l1 x5_1)) = true := beq_iff_eq.mpr c9
          have c9b1 : ((rd l0 x5_1) != (rd l1 x5_1)) = false := bne_eq_false_iff_eq.mpr c9
          clear c9
          have H' := Aside0.mk H
          clear H
          have p393 : 0 ≤ (x5_1 : Int) := of_decide_eq_true (by first | (with_reducible assumption) | assumption)
          have q393 : x5_1 < (l0.length : Int) := of_decide_eq_true (by first | (with_reducible assumption) | assumption)
          obtain ⟨ad393, e393, hx393_0⟩ := Kd.at_int HR0.out x5_1 p393 q393
          cases e393
          replace p393 := eq_true p393
          replace q393 := eq_true q393
          have p394 : 0 ≤ (x5_1 : Int) := of_decide_eq_true (by first | (with_reducible assumption) | assumption)
          have q394 : x5_1 < (l1.length : Int) := of_decide_eq_true (by first | (with_reducible assumption) | assumption)
          obtain ⟨ad394, e394, hx394_0⟩ := Kd.at_int HR1.out x5_1 p394 q394
          cases e394
          replace p394 := eq_true p394
          replace q394 := eq_true q394
          go_wp2
          repeat (go_quiet (fail); try go_wp2)
          go_roundg kj2
          case measure => have := HK1.out; have := HJ2.out; omega
          case rel => exact ⟨(wrap64 (x5_1 + 1)), (by first | rfl | (simp; done) | (simp [*]; done)), H', ⟨by have := HK1.out; have := HJ2.out; omega⟩, by repeat (first | exact Drawn0.refl _ | apply Drawn0.step)⟩
         ·rw [if_neg c9] at H
          have c9b0 : ((rd l0 x5_1) == (rd l1 x5_1)) = false := beq_eq_false_iff_ne.mpr c9
          have c9b1 : ((rd l0 x5_1) != (rd l1 x5_1)) = true := bne_iff_ne.mpr c9
          obtain rfl := Option.some.inj H
          have p393 : 0 ≤ (x5_1 : Int) := of_decide_eq_true (by first | (with_reducible assumption) | assumption)
          have q393 : x5_1 < (l0.length : Int) := of_decide_eq_true (by first | (with_reducible assumption) | assumption)
          obtain ⟨ad393, e393, hx393_0⟩ := Kd.at_int HR0.out x5_1 p393 q393
          cases e393
          replace p393 := eq_true p393
          replace q393 := eq_true q393
          have p394 : 0 ≤ (x5_1 : Int) := of_decide_eq_true (by first | (with_reducible assumption) | assumption)
          have q394 : x5_1 < (l1.length : Int) := of_decide_eq_true (by first | (with_reducible assumption) | assumption)
          obtain ⟨ad394, e394, hx394_0⟩ := Kd.at_int HR1.out x5_1 p394 q394
          cases e394
          replace p394 := eq_true p394
          replace q394 := eq_true q394
          go_wp2
          repeat (go_quiet (fail); try go_wp2)
          go_ret
          exact ⟨by first | rfl | (simp; done) | (simp [*]; done), by repeat (first | exact Drawn0.refl _ | apply Drawn0.step)⟩
        ·rw [if_neg c8] at H
         exact absurd H (by simp)
       ·rw [if_neg c7] at H
        exact absurd H (by simp)
      ·rw [if_neg c6] at H
       exact absurd H (by simp)
     ·replace c5 := Bool.eq_false_iff.mpr c5
      subst c5
      have H1 : (some ((l0.length : Int) == (l1.length : Int))) = some r := by rw [if_neg (show ¬ (false = true) by decide)] at H; exact H
      clear H
      have H := H1
      clear H1
      obtain rfl := Option.some.inj H
      go_wp2
      repeat (go_quiet (fail); try go_wp2)
      go_ret
      exact ⟨by first | rfl | (simp; done) | (simp [*]; done), by repeat (first | exact Drawn0.refl _ | apply Drawn0.step)⟩
end Go.Proofs.Ytjfkompfkgjdaaa.PC
end
section
namespace Go.Proofs.Ytjfkompfkgjdaaa.PC
open Go.RowKit Go.Proofs.YtjfkompfkgjdaaaW.PrintWords Go.Proofs.YtjfkompfkgjdaaaW.PrintLast Go.Proofs.YtjfkompfkgjdaaaW.PrintMore
attribute [local go_sem] max2_int min2_int max_two min_two max_three min_three max_four min_four   -- for this text's walks alone
set_option linter.unusedVariables false
set_option linter.unusedSimpArgs false
/-! ### strings_Builder_Len: function 84 -/
/-- append(xs[:len(xs):len(xs)], x): a list of its own -/
def strings_Builder_Len.f (l0 : List Int) (a1 : Int) : Option (List Int) := if l0.length ≤ 1000000 then some (l0 ++ [a1]) else none
end Go.Proofs.Ytjfkompfkgjdaaa.PC
end
section
namespace Go.Proofs.Ytjfkompfkgjdaaa.PC
open Go.RowKit Go.Proofs.YtjfkompfkgjdaaaW.PrintWords Go.Proofs.YtjfkompfkgjdaaaW.PrintLast Go.Proofs.YtjfkompfkgjdaaaW.PrintMore
attribute [local go_sem] max2_int min2_int max_two min_two max_three min_three max_four min_four   -- for this text's walks alone
set_option linter.unusedVariables false
set_option linter.unusedSimpArgs false
/-! ### pomaderef07_product: function 58 -/
mutual
def pomaderef07_product.l0 : Nat → List Int → List Int → Int → List Bool → List Int → Int → Option (List Int × Int)
 | 0, _, _, _, _, _, _ => none
 | k + 1, x0, x1, x6, x7, x8, x9 => if x9 < (wrap64 (2 * x6)) then (if x9 ≥ x6 then (pomaderef07_product.j1 k x0 x1 x6 x7 x8 x9 (wrap64 (x9 + (wrap64 (2 * x6))))) else (pomaderef07_product.j1 k x0 x1 x6 x7 x8 x9 x9)) else (pomaderef07_product.l2 k x0 x1 x6 x7 x8 0 x6)
def pomaderef07_product.j1 : Nat → List Int → List Int → Int → List Bool → List Int → Int → Int → Option (List Int × Int)
 | 0, _, _, _, _, _, _, _ => none
 | k + 1, x0, x1, x6, x7, x8, x9, x10 => if 0 ≤ x10 then (if x10 < (x7.length : Int) then (pomaderef07_product.l1 k x0 x1 x6 (x7.set (x10 : Int).toNat true) x8 x9 x10) else (none)) else (none)
def pomaderef07_product.l1 : Nat → List Int → List Int → Int → List Bool → List Int → Int → Int → Option (List Int × Int)
 | 0, _, _, _, _, _, _, _ => none
 | k + 1, x0, x1, x6, x7, x8, x9, x10 => if x10 < (wrap64 (2 * x6)) then (if 0 ≤ x10 then (if x10 < (x0.length : Int) then (pomaderef07_product.j3 k x0 x1 x6 x7 x8 x9 (rd x0 x10)) else (none)) else (none)) else (if 0 ≤ (wrap64 (x10 - (wrap64 (2 * x6)))) then (if (wrap64 (x10 - (wrap64 (2 * x6)))) < (x1.length : Int) then (pomaderef07_product.j3 k x0 x1 x6 x7 x8 x9 (wrap64 ((wrap64 (2 * x6)) + (rd x1 (wrap64 (x10 - (wrap64 (2 * x6)))))))) else (none)) else (none))
def pomaderef07_product.j3 : Nat → List Int → List Int → Int → List Bool → List Int → Int → Int → Option (List Int × Int)
 | 0, _, _, _, _, _, _, _ => none
 | k + 1, x0, x1, x6, x7, x8, x9, x10 => if 0 ≤ x10 then (if x10 < (x7.length : Int) then ((some (x7.set (x10 : Int).toNat true : List Bool)).bind fun y288 => (if x10 < x6 then (pomaderef07_product.j4 k x0 x1 x6 y288 x8 x9 x10 true) else (pomaderef07_product.j4 k x0 x1 x6 y288 x8 x9 x10 (decide (x10 ≥ (wrap64 (3 * x6))))))) else (none)) else (none)
def pomaderef07_product.j4 : Nat → List Int → List Int → Int → List Bool → List Int → Int → Int → Bool → Option (List Int × Int)
 | 0, _, _, _, _, _, _, _, _ => none
 | k + 1, x0, x1, x6, x7, x8, x9, x10, x69 => if x69 = true then (if x10 ≥ (wrap64 (3 * x6)) then (if 0 ≤ x9 then (if x9 < (x8.length : Int) then (pomaderef07_product.l0 k x0 x1 x6 x7 (x8.set (x9 : Int).toNat (wrap64 (x10 - (wrap64 (2 * x6))))) (wrap64 (x9 + 1))) else (none)) else (none)) else (if 0 ≤ x9 then (if x9 < (x8.length : Int) then (pomaderef07_product.l0 k x0 x1 x6 x7 (x8.set (x9 : Int).toNat x10) (wrap64 (x9 + 1))) else (none)) else (none))) else (if x10 < (wrap64 (2 * x6)) then (if 0 ≤ (wrap64 (x10 + x6)) then (if (wrap64 (x10 + x6)) < (x7.length : Int) then (pomaderef07_product.l1 k x0 x1 x6 (x7.set ((wrap64 (x10 + x6)) : Int).toNat true) x8 x9 (wrap64 (x10 + x6))) else (none)) else (none)) else (if 0 ≤ (wrap64 (x10 - x6)) then (if (wrap64 (x10 - x6)) < (x7.length : Int) then (pomaderef07_product.l1 k x0 x1 x6 (x7.set ((wrap64 (x10 - x6)) : Int).toNat true) x8 x9 (wrap64 (x10 - x6))) else (none)) else (none)))
def pomaderef07_product.l2 : Nat → List Int → List Int → Int → List Bool → List Int → Int → Int → Option (List Int × Int)
 | 0, _, _, _, _, _, _, _ => none
 | k + 1, x0, x1, x6, x7, x8, x11, x12 => if x12 < (wrap64 (2 * x6)) then (if 0 ≤ x12 then (if x12 < (x7.length : Int) then (if rdOf false x7 x12 = true then (pomaderef07_product.l2 k x0 x1 x6 x7 x8 x11 (wrap64 (x12 + 1))) else (pomaderef07_product.l3 k x0 x1 x6 x7 x8 (wrap64 (x11 + 1)) x12 x12)) else (none)) else (none)) else (some (x8, x11))
def pomaderef07_product.l3 : Nat → List Int → List Int → Int → List Bool → List Int → Int → Int → Int → Option (List Int × Int)
 | 0, _, _, _, _, _, _, _, _ => none
 | k + 1, x0, x1, x6, x7, x8, x11, x12, x13 => if 0 ≤ x13 then (if x13 < (x7.length : Int) then (if rdOf false x7 x13 = true then (pomaderef07_product.l2 k x0 x1 x6 x7 x8 x11 (wrap64 (x12 + 1))) else (if x13 < (x0.length : Int) then (if 0 ≤ (rd x0 x13) then (if (rd x0 x13) < (x7.length : Int) then (if 0 ≤ (wrap64 ((rd x0 x13) - x6)) then (if (wrap64 ((rd x0 x13) - x6)) < (x1.length : Int) then (if 0 ≤ (wrap64 ((wrap64 (2 * x6)) + (rd x1 (wrap64 ((rd x0 x13) - x6))))) then (if (wrap64 ((wrap64 (2 * x6)) + (rd x1 (wrap64 ((rd x0 x13) - x6))))) < (x7.length : Int) then (pomaderef07_product.l3 k x0 x1 x6 (((x7.set (x13 : Int).toNat true).set ((rd x0 x13) : Int).toNat true).set ((wrap64 ((wrap64 (2 * x6)) + (rd x1 (wrap64 ((rd x0 x13) - x6))))) : Int).toNat true) x8 x11 x12 (wrap64 ((wrap64 ((wrap64 (2 * x6)) + (rd x1 (wrap64 ((rd x0 x13) - x6))))) - x6))) else (none)) else (none)) else (none)) else (none)) else (none)) else (none)) else (none))) else (none)) else (none)
end
def pomaderef07_product.f (k : Nat) (l0 : List Int) (l1 : List Int) : Option (List Int × Int) := if 0 ≤ (wrap64 (4 * (wrap64 ((l0.length : Int) / 2)))) then (if (wrap64 (4 * (wrap64 ((l0.length : Int) / 2))) : Int).toNat ≤ 281474976710656 then (if 0 ≤ (wrap64 (2 * (wrap64 ((l0.length : Int) / 2)))) then (if (wrap64 (2 * (wrap64 ((l0.length : Int) / 2))) : Int).toNat ≤ 35184372088832 then (pomaderef07_product.l0 k l0 l1 (wrap64 ((l0.length : Int) / 2)) (List.replicate (wrap64 (4 * (wrap64 ((l0.length : Int) / 2))) : Int).toNat false) (List.replicate (wrap64 (2 * (wrap64 ((l0.length : Int) / 2))) : Int).toNat 0) 0) else (none)) else (none)) else (none)) else (none)
theorem pomaderef07_product.mono_l : ∀ k, (∀ y0 y1 y2 y3 y4 y5, LeO (pomaderef07_product.l0 k y0 y1 y2 y3 y4 y5) (pomaderef07_product.l0 (k + 1) y0 y1 y2 y3 y4 y5)) ∧ (∀ y0 y1 y2 y3 y4 y5 y6, LeO (pomaderef07_product.j1 k y0 y1 y2 y3 y4 y5 y6) (pomaderef07_product.j1 (k + 1) y0 y1 y2 y3 y4 y5 y6)) ∧ (∀ y0 y1 y2 y3 y4 y5 y6, LeO (pomaderef07_product.l1 k y0 y1 y2 y3 y4 y5 y6) (pomaderef07_product.l1 (k + 1) y0 y1 y2 y3 y4 y5 y6)) ∧ (∀ y0 y1 y2 y3 y4 y5 y6, LeO (pomaderef07_product.j3 k y0 y1 y2 y3 y4 y5 y6) (pomaderef07_product.j3 (k + 1) y0 y1 y2 y3 y4 y5 y6)) ∧ (∀ y0 y1 y2 y3 y4 y5 y6 y7, LeO (pomaderef07_product.j4 k y0 y1 y2 y3 y4 y5 y6 y7) (pomaderef07_product.j4 (k + 1) y0 y1 y2 y3 y4 y5 y6 y7)) ∧ (∀ y0 y1 y2 y3 y4 y5 y6, LeO (pomaderef07_product.l2 k y0 y1 y2 y3 y4 y5 y6) (pomaderef07_product.l2 (k + 1) y0 y1 y2 y3 y4 y5 y6)) ∧ (∀ y0 y1 y2 y3 y4 y5 y6 y7, LeO (pomaderef07_product.l3 k y0 y1 y2 y3 y4 y5 y6 y7) (pomaderef07_product.l3 (k + 1) y0 y1 y2 y3 y4 y5 y6 y7))
 | 0 => ⟨fun _ _ _ _ _ _ r h => by simp [pomaderef07_product.l0] at h, fun _ _ _ _ _ _ _ r h => by simp [pomaderef07_product.j1] at h, fun _ _ _ _ _ _ _ r h => by simp [pomaderef07_product.l1] at h, fun _ _ _ _ _ _ _ r h => by simp [pomaderef07_product.j3] at h, fun _ _ _ _ _ _ _ _ r h => by simp [pomaderef07_product.j4] at h, fun _ _ _ _ _ _ _ r h => by simp [pomaderef07_product.l2] at h, fun _ _ _ _ _ _ _ _ r h => by simp [pomaderef07_product.l3] at h⟩
 | k + 1 => by
  obtain ⟨ih0, ih1, ih2, ih3, ih4, ih5, ih6⟩ := pomaderef07_product.mono_l k
  refine ⟨?_, ?_, ?_, ?_, ?_, ?_, ?_⟩
  ·intro y0 y1 y2 y3 y4 y5
   unfold pomaderef07_product.l0
   repeat' first
   | (with_reducible exact ih0 _ _ _ _ _ _)
   | (with_reducible exact ih1 _ _ _ _ _ _ _)
   | (with_reducible exact ih2 _ _ _ _ _ _ _)
   | (with_reducible exact ih3 _ _ _ _ _ _ _)
   | (with_reducible exact ih4 _ _ _ _ _ _ _ _)
   | (with_reducible exact ih5 _ _ _ _ _ _ _)
   | (with_reducible exact ih6 _ _ _ _ _ _ _ _)
   | (with_reducible exact LeO.refl _)
   | (with_reducible exact LeO.none _)
   | (with_reducible refine LeO.ite ?_ ?_)
   | (with_reducible refine LeO.bind ?_ (fun _ => ?_))
   | exact ih0 _ _ _ _ _ _
   | exact ih1 _ _ _ _ _ _ _
   | exact ih2 _ _ _ _ _ _ _
   | exact ih3 _ _ _ _ _ _ _
   | exact ih4 _ _ _ _ _ _ _ _
   | exact ih5 _ _ _ _ _ _ _
   | exact ih6 _ _ _ _ _ _ _ _
   | exact LeO.none _
   | refine LeO.ite ?_ ?_
   | refine LeO.bind ?_ (fun _ => ?_)
  ·intro y0 y1 y2 y3 y4 y5 y6
   unfold pomaderef07_product.j1
   repeat' first
   | (with_reducible exact ih0 _ _ _ _ _ _)
   | (with_reducible exact ih1 _ _ _ _ _ _ _)
   | (with_reducible exact ih2 _ _ _ _ _ _ _)
   | (with_reducible exact ih3 _ _ _ _ _ _ _)
   | (with_reducible exact ih4 _ _ _ _ _ _ _ _)
   | (with_reducible exact ih5 _ _ _ _ _ _ _)
   | (with_reducible exact ih6 _ _ _ _ _ _ _ _)
   | (with_reducible exact LeO.refl _)
   | (with_reducible exact LeO.none _)
   | (with_reducible refine LeO.ite ?_ ?_)
   | (with_reducible refine LeO.bind ?_ (fun _ => ?_))
   | exact ih0 _ _ _ _ _ _
   | exact ih1 _ _ _ _ _ _ _
   | exact ih2 _ _ _ _ _ _ _
   | exact ih3 _ _ _ _ _ _ _
   | exact ih4 _ _ _ _ _ _ _ _
   | exact ih5 _ _ _ _ _ _ _
   | exact ih6 _ _ _ _ _ _ _ _
   | exact LeO.none _
   | refine LeO.ite ?_ ?_
   | refine LeO.bind ?_ (fun _ => ?_)
  ·intro y0 y1 y2 y3 y4 y5 y6
   unfold pomaderef07_product.l1
   repeat' first
   | (with_reducible exact ih0 _ _ _ _ _ _)
   | (with_reducible exact ih1 _ _ _ _ _ _ _)
   | (with_reducible exact ih2 _ _ _ _ _ _ _)
   | (with_reducible exact ih3 _ _ _ _ _ _ _)
   | (with_reducible exact ih4 _ _ _ _ _ _ _ _)
   | (with_reducible exact ih5 _ _ _ _ _ _ _)
   | (with_reducible exact ih6 _ _ _ _ _ _ _ _)
   | (with_reducible exact LeO.refl _)
   | (with_reducible exact LeO.none _)
   | (with_reducible refine LeO.ite ?_ ?_)
   | (with_reducible refine LeO.bind ?_ (fun _ => ?_))
   | exact ih0 _ _ _ _ _ _
   | exact ih1 _ _ _ _ _ _ _
   | exact ih2 _ _ _ _ _ _ _
   | exact ih3 _ _ _ _ _ _ _
   | exact ih4 _ _ _ _ _ _ _ _
   | exact ih5 _ _ _ _ _ _ _
   | exact ih6 _ _ _ _ _ _ _ _
   | exact LeO.none _
   | refine LeO.ite ?_ ?_
   | refine LeO.bind ?_ (fun _ => ?_)
  ·intro y0 y1 y2 y3 y4 y5 y6
   unfold pomaderef07_product.j3
   repeat' first
   | (with_reducible exact ih0 _ _ _ _ _ _)
   | (with_reducible exact ih1 _ _ _ _ _ _ _)
   | (with_reducible exact ih2 _ _ _ _ _ _ _)
   | (with_reducible exact ih3 _ _ _ _ _ _ _)
   | (with_reducible exact ih4 _ _ _ _ _ _ _ _)
   | (with_reducible exact ih5 _ _ _ _ _ _ _)
   | (with_reducible exact ih6 _ _ _ _ _ _ _ _)
   | (with_reducible exact LeO.refl _)
   | (with_reducible exact LeO.none _)
   | (with_reducible refine LeO.ite ?_ ?_)
   | (with_reducible refine LeO.bind ?_ (fun _ => ?_))
   | exact ih0 _ _ _ _ _ _
   | exact ih1 _ _ _ _ _ _ _
   | exact ih2 _ _ _ _ _ _ _
   | exact ih3 _ _ _ _ _ _ _
   | exact ih4 _ _ _ _ _ _ _ _
   | exact ih5 _ _ _ _ _ _ _
   | exact ih6 _ _ _ _ _ _ _ _
   | exact LeO.none _
   | refine LeO.ite ?_ ?_
   | refine LeO.bind ?_ (fun _ => ?_)
  ·intro y0 y1 y2 y3 y4 y5 y6 y7
   unfold pomaderef07_product.j4
   repeat' first
   | (with_reducible exact ih0 _ _ _ _ _ _)
   | (with_reducible exact ih1 _ _ _ _ _ _ _)
   | (with_reducible exact ih2 _ _ _ _ _ _ _)
   | (with_reducible exact ih3 _ _ _ _ _ _ _)
   | (with_reducible exact ih4 _ _ _ _ _ _ _ _)
   | (with_reducible exact ih5 _ _ _ _ _ _ _)
   | (with_reducible exact ih6 _ _ _ _ _ _ _ _)
   | (with_reducible exact LeO.refl _)
   | (with_reducible exact LeO.none _)
   | (with_reducible refine LeO.ite ?_ ?_)
   | (with_reducible refine LeO.bind ?_ (fun _ => ?_))
   | exact ih0 _ _ _ _ _ _
   | exact ih1 _ _ _ _ _ _ _
   | exact ih2 _ _ _ _ _ _ _
   | exact ih3 _ _ _ _ _ _ _
   | exact ih4 _ _ _ _ _ _ _ _
   | exact ih5 _ _ _ _ _ _ _
   | exact ih6 _ _ _ _ _ _ _ _
   | exact LeO.none _
   | refine LeO.ite ?_ ?_
   | refine LeO.bind ?_ (fun _ => ?_)
  ·intro y0 y1 y2 y3 y4 y5 y6
   unfold pomaderef07_product.l2
   repeat' first
   | (with_reducible exact ih0 _ _ _ _ _ _)
   | (with_reducible exact ih1 _ _ _ _ _ _ _)
   | (with_reducible exact ih2 _ _ _ _ _ _ _)
   | (with_reducible exact ih3 _ _ _ _ _ _ _)
   | (with_reducible exact ih4 _ _ _ _ _ _ _ _)
   | (with_reducible exact ih5 _ _ _ _ _ _ _)
   | (with_reducible exact ih6 _ _ _ _ _ _ _ _)
   | (with_reducible exact LeO.refl _)
   | (with_reducible exact LeO.none _)
   | (with_reducible refine LeO.ite ?_ ?_)
   | (with_reducible refine LeO.bind ?_ (fun _ => ?_))
   | exact ih0 _ _ _ _ _ _
   | exact ih1 _ _ _ _ _ _ _
   | exact ih2 _ _ _ _ _ _ _
   | exact ih3 _ _ _ _ _ _ _
   | exact ih4 _ _ _ _ _ _ _ _
   | exact ih5 _ _ _ _ _ _ _
   | exact ih6 _ _ _ _ _ _ _ _
   | exact LeO.none _
   | refine LeO.ite ?_ ?_
   | refine LeO.bind ?_ (fun _ => ?_)
  ·intro y0 y1 y2 y3 y4 y5 y6 y7
   unfold pomaderef07_product.l3
   repeat' first
   | (with_reducible exact ih0 _ _ _ _ _ _)
   | (with_reducible exact ih1 _ _ _ _ _ _ _)
   | (with_reducible exact ih2 _ _ _ _ _ _ _)
   | (with_reducible exact ih3 _ _ _ _ _ _ _)
   | (with_reducible exact ih4 _ _ _ _ _ _ _ _)
   | (with_reducible exact ih5 _ _ _ _ _ _ _)
   | (with_reducible exact ih6 _ _ _ _ _ _ _ _)
   | (with_reducible exact LeO.refl _)
   | (with_reducible exact LeO.none _)
   | (with_reducible refine LeO.ite ?_ ?_)
   | (with_reducible refine LeO.bind ?_ (fun _ => ?_))
   | exact ih0 _ _ _ _ _ _
   | exact ih1 _ _ _ _ _ _ _
   | exact ih2 _ _ _ _ _ _ _
   | exact ih3 _ _ _ _ _ _ _
   | exact ih4 _ _ _ _ _ _ _ _
   | exact ih5 _ _ _ _ _ _ _
   | exact ih6 _ _ _ _ _ _ _ _
   | exact LeO.none _
   | refine LeO.ite ?_ ?_
   | refine LeO.bind ?_ (fun _ => ?_)
theorem pomaderef07_product.mono : ∀ a0 a1 k, LeO (pomaderef07_product.f k a0 a1) (pomaderef07_product.f (k + 1) a0 a1) := by
 intro a0 a1 k
 obtain ⟨ih0, ih1, ih2, ih3, ih4, ih5, ih6⟩ := pomaderef07_product.mono_l k
 unfold pomaderef07_product.f
 repeat' first
   | (with_reducible exact ih0 _ _ _ _ _ _)
   | (with_reducible exact ih1 _ _ _ _ _ _ _)
   | (with_reducible exact ih2 _ _ _ _ _ _ _)
   | (with_reducible exact ih3 _ _ _ _ _ _ _)
   | (with_reducible exact ih4 _ _ _ _ _ _ _ _)
   | (with_reducible exact ih5 _ _ _ _ _ _ _)
   | (with_reducible exact ih6 _ _ _ _ _ _ _ _)
   | (with_reducible exact LeO.refl _)
   | (with_reducible exact LeO.none _)
   | (with_reducible refine LeO.ite ?_ ?_)
   | (with_reducible refine LeO.bind ?_ (fun _ => ?_))
   | exact ih0 _ _ _ _ _ _
   | exact ih1 _ _ _ _ _ _ _
   | exact ih2 _ _ _ _ _ _ _
   | exact ih3 _ _ _ _ _ _ _
   | exact ih4 _ _ _ _ _ _ _ _
   | exact ih5 _ _ _ _ _ _ _
   | exact ih6 _ _ _ _ _ _ _ _
   | exact LeO.none _
   | refine LeO.ite ?_ ?_
   | refine LeO.bind ?_ (fun _ => ?_)
set_option maxHeartbeats 8000000 in
set_option maxRecDepth 100000 in
theorem pomaderef07_product.calls (k : Nat) (A0 : Option Addr) (c0 : Nat) (l0 : List Int) (A1 : Option Addr) (c1 : Nat) (l1 : List Int) (r1 : List Int) (r2 : Int) (w : World) (hr0 : Kd.C (Kd.int .i64) w A0 l0.length l0) (hc0 : l0.length ≤ c0) (hr1 : Kd.C (Kd.int .i64) w A1 l1.length l1) (hc1 : l1.length ≤ c1) (h : pomaderef07_product.f k l0 l1 = some (r1, r2)) :
  Calls Try.prog 58 #[.slice A0 l0.length c0, .slice A1 l1.length c1] w fun e w' => ∃ v0_ : Value, e = .returned (.tuple #[v0_, .int .i64 r2]) ∧ Kd.R (Kd.int .i64) 3 w' w.heap.size (fun _ => True) v0_ r1 ∧ Below w.heap.size w w' := by
 have HR0 := Aside0.mk hr0
 have HC0 := Aside0.mk hc0
 clear hr0 hc0
 have HR1 := Aside0.mk hr1
 have HC1 := Aside0.mk hc1
 clear hr1 hc1
 have HB := Aside0.mk (Below.refl w.heap.size w)
 have H : (if 0 ≤ (wrap64 (4 * (wrap64 ((l0.length : Int) / 2)))) then (if (wrap64 (4 * (wrap64 ((l0.length : Int) / 2))) : Int).toNat ≤ 281474976710656 then (if 0 ≤ (wrap64 (2 * (wrap64 ((l0.length : Int) / 2)))) then (if (wrap64 (2 * (wrap64 ((l0.length : Int) / 2))) : Int).toNat ≤ 35184372088832 then (pomaderef07_product.l0 k l0 l1 (wrap64 ((l0.length : Int) / 2)) (List.replicate (wrap64 (4 * (wrap64 ((l0.length : Int) / 2))) : Int).toNat false) (List.replicate (wrap64 (2 * (wrap64 ((l0.length : Int) / 2))) : Int).toNat 0) 0) else (none)) else (none)) else (none)) else (none)) = some (r1, r2) := h
 clear h
 obtain ⟨ji3, hji3⟩ : ∃ j_ : Int, (wrap64 (4 * (wrap64 ((l0.length : Int) / 2)))) = j_ := ⟨_, rfl⟩
 replace H : (if 0 ≤ (ji3) then (if (ji3 : Int).toNat ≤ 281474976710656 then (if 0 ≤ (wrap64 (2 * (wrap64 ((l0.length : Int) / 2)))) then (if (wrap64 (2 * (wrap64 ((l0.length : Int) / 2))) : Int).toNat ≤ 35184372088832 then (pomaderef07_product.l0 k l0 l1 (wrap64 ((l0.length : Int) / 2)) (List.replicate (ji3 : Int).toNat false) (List.replicate (wrap64 (2 * (wrap64 ((l0.length : Int) / 2))) : Int).toNat 0) 0) else (none)) else (none)) else (none)) else (none)) = some (r1, r2) := by first | (rw [hji3] at H; exact H) | (simp only [hji3] at H ⊢; exact H)
 have hji3w : (IntKind.i64.wrap (4 * (wrap64 ((l0.length : Int) / 2)))) = ji3 := (i64_w _).trans hji3
 by_cases c4 : 0 ≤ (ji3)
 ·rw [if_pos c4] at H
  have c4b0 := eq_true c4
  have c4b1 : decide (0 ≤ (ji3)) = true := decide_eq_true c4
  clear c4
  by_cases c5 : (ji3 : Int).toNat ≤ 281474976710656
  ·rw [if_pos c5] at H
   have c5b0 := eq_true c5
   have c5b1 : decide ((ji3 : Int).toNat ≤ 281474976710656) = true := decide_eq_true c5
   clear c5
   obtain ⟨y279, hy279⟩ : ∃ y_ : List Bool, y_ = (List.replicate (ji3 : Int).toNat false) := ⟨_, rfl⟩
   replace H : (if 0 ≤ (wrap64 (2 * (wrap64 ((l0.length : Int) / 2)))) then (if (wrap64 (2 * (wrap64 ((l0.length : Int) / 2))) : Int).toNat ≤ 35184372088832 then (pomaderef07_product.l0 k l0 l1 (wrap64 ((l0.length : Int) / 2)) y279 (List.replicate (wrap64 (2 * (wrap64 ((l0.length : Int) / 2))) : Int).toNat 0) 0) else (none)) else (none)) = some (r1, r2) := by first | (rw [hy279]; with_reducible exact H) | (have H2_ := (Option.bind_some _ _).symm.trans H; rw [hy279]; with_reducible exact H2_) | (have H2_ := (Option.bind_some _ _).symm.trans H; with_reducible exact H2_) | with_reducible exact H | (rw [hy279]; exact H) | exact H
   have Ny279 := Aside0.mk hy279
   clear hy279
   obtain ⟨ji6, hji6⟩ : ∃ j_ : Int, (wrap64 (2 * (wrap64 ((l0.length : Int) / 2)))) = j_ := ⟨_, rfl⟩
   replace H : (if 0 ≤ (ji6) then (if (ji6 : Int).toNat ≤ 35184372088832 then (pomaderef07_product.l0 k l0 l1 (wrap64 ((l0.length : Int) / 2)) y279 (List.replicate (ji6 : Int).toNat 0) 0) else (none)) else (none)) = some (r1, r2) := by first | (rw [hji6] at H; exact H) | (simp only [hji6] at H ⊢; exact H)
   have hji6w : (IntKind.i64.wrap (2 * (wrap64 ((l0.length : Int) / 2)))) = ji6 := (i64_w _).trans hji6
   (try simp only [hji3] at hji6)
   (try simp only [hji3] at hji6w)
   by_cases c7 : 0 ≤ (ji6)
   ·rw [if_pos c7] at H
    have c7b0 := eq_true c7
    have c7b1 : decide (0 ≤ (ji6)) = true := decide_eq_true c7
    clear c7
    by_cases c8 : (ji6 : Int).toNat ≤ 35184372088832
    ·rw [if_pos c8] at H
     have c8b0 := eq_true c8
     have c8b1 : decide ((ji6 : Int).toNat ≤ 35184372088832) = true := decide_eq_true c8
     clear c8
     obtain ⟨y282, hy282⟩ : ∃ y_ : List Int, y_ = (List.replicate (ji6 : Int).toNat 0) := ⟨_, rfl⟩
     replace H : (pomaderef07_product.l0 k l0 l1 (wrap64 ((l0.length : Int) / 2)) y279 y282 0) = some (r1, r2) := by first | (rw [hy282]; with_reducible exact H) | (have H2_ := (Option.bind_some _ _).symm.trans H; rw [hy282]; with_reducible exact H2_) | (have H2_ := (Option.bind_some _ _).symm.trans H; with_reducible exact H2_) | with_reducible exact H | (rw [hy282]; exact H) | exact H
     have Ny282 := Aside0.mk hy282
     clear hy282
     have H' := Aside0.mk H
     clear H
     go_enter Try.func58, Try.ntmps58
     go_wp2_with (first | ((with_reducible refine gate_dst (N := 19) rfl ?_); refine Kd.R_make Kd.bool _ 4 rfl (N := 19) rfl 69 _ _ rfl ji3 rfl rfl Try.underlying69 (.bool false) 1 info4 rfl (by decide) (by omega) false (ok := fun _ => True) (okp := fun _ => True) rfl (fun _ hk => hk) trivial (of_decide_eq_true (by first | (with_reducible assumption) | assumption)) (Nat.le_trans (Nat.mul_le_mul_right _ (of_decide_eq_true (by first | (with_reducible assumption) | assumption) : ji3.toNat ≤ 281474976710656)) (by omega)) (Below.refl _ _) (Nat.le_refl _) ?_; intro v280 w9 ho10 hb hg_ hnew_; clear hg_ hnew_; (first | rw [← Ny279.out] at ho10 | (simp only [Int.reduceToNat] at ho10; rw [← Ny279.out] at ho10)); have n0_ := Aside0.mk (Kd.R_lower ho10 (below_size (by repeat (first | (with_reducible first | exact HB.out | apply below_alloc | apply pw_below_drewN | apply below_drew1) | exact HB.out)))); have n1_ := Aside0.mk (below_step (by repeat (first | (with_reducible first | exact HB.out | apply below_alloc | apply pw_below_drewN | apply below_drew1) | exact HB.out)) hb); clear HB; have HO281 := n0_; have HB := n1_; clear n0_ n1_; clear hb ho10) | ((with_reducible refine gate_dst (N := 22) rfl ?_); refine Kd.R_make (Kd.int .i64) _ 3 rfl (N := 22) rfl 22 _ _ rfl ji6 rfl rfl Try.underlying22 (.int .i64 0) 8 info3 rfl (by decide) (by omega) 0 (ok := fun _ => True) (okp := fun _ => True) rfl (fun _ hk => hk) trivial (of_decide_eq_true (by first | (with_reducible assumption) | assumption)) (Nat.le_trans (Nat.mul_le_mul_right _ (of_decide_eq_true (by first | (with_reducible assumption) | assumption) : ji6.toNat ≤ 35184372088832)) (by omega)) (Below.refl _ _) (Nat.le_refl _) ?_; intro v283 w11 ho12 hb hg_ hnew_; clear hg_ hnew_; (first | rw [← Ny282.out] at ho12 | (simp only [Int.reduceToNat] at ho12; rw [← Ny282.out] at ho12)); have n0_ := Aside0.mk (Kd.R_below (by (with_reducible repeat (first | apply Kd.R_alloc | apply Kd.R_drewN | apply Kd.R_drew)); exact HO281.out) hb); have n1_ := Aside0.mk (Kd.R_lower ho12 (below_size (by repeat (first | (with_reducible first | exact HB.out | apply below_alloc | apply pw_below_drewN | apply below_drew1) | exact HB.out)))); have n2_ := Aside0.mk (below_step (by repeat (first | (with_reducible first | exact HB.out | apply below_alloc | apply pw_below_drewN | apply below_drew1) | exact HB.out)) hb); clear HO281; clear HB; have HO281 := n0_; have HO284 := n1_; have HB := n2_; clear n0_ n1_ n2_; clear hb ho12))
     go_loopg [9] k (fun kq v9 w' => ∃ (x7_1 : List Bool) (x8_1 : List Int) (x9_1 : Int), v9 = .int .i64 x9_1 ∧ Aside0 (pomaderef07_product.l0 kq l0 l1 (wrap64 ((l0.length : Int) / 2)) x7_1 x8_1 x9_1 = some (r1, r2)) ∧ Aside0 (kq ≤ k) ∧ Aside0 (Kd.R Kd.bool 4 w' w.heap.size (fun _ => True) v280 x7_1) ∧ Aside0 (Kd.R (Kd.int .i64) 3 w' w.heap.size (fun _ => True) v283 x8_1) ∧ Aside0 (Below w.heap.size w w'))
     case atStart => exact ⟨(y279), (y282), (0), (by first | rfl | (simp; done) | (simp [*]; done)), H', ⟨Nat.le_refl _⟩, ⟨by (with_reducible repeat (first | apply Kd.R_alloc | apply Kd.R_drewN | apply Kd.R_drew)); exact HO281.out⟩, ⟨by (with_reducible repeat (first | apply Kd.R_alloc | apply Kd.R_drewN | apply Kd.R_drew)); exact HO284.out⟩, ⟨by repeat (first | (with_reducible first | exact HB.out | apply below_alloc | apply pw_below_drewN | apply below_drew1) | exact HB.out)⟩⟩
     case round =>
      clear H'
      try clear c1
      try clear p2
      try clear c4
      try clear c4b0
      try clear c4b1
      try clear c5
      try clear c5b0
      try clear c5b1
      try clear p6
      try clear c7
      try clear c7b0
      try clear c7b1
      try clear c8
      try clear c8b0
      try clear c8b1
      obtain ⟨x7_1, x8_1, x9_1, rfl, HA, HK1, HO_7, HO_8, HB⟩ := hrel
      cases gk with
      | zero => exact absurd HA.out (by simp [pomaderef07_product.l0])
      | succ k1 =>
       have H := HA.out
       clear HA
       simp only [pomaderef07_product.l0] at H
       by_cases c13 : x9_1 < (wrap64 (2 * (wrap64 ((l0.length : Int) / 2))))
       ·rw [if_pos c13] at H
        have c13b0 : decide (x9_1 < (wrap64 (2 * (wrap64 ((l0.length : Int) / 2))))) = true := decide_eq_true c13
        (try simp only [hji3] at c13b0)
        (try simp only [hji6] at c13b0)
        clear c13
        have HC14 := Aside0.mk H
        clear H
        go_upto_if 32 with (fail)
        go_cut [10] (fun v10 wc => ∃ (kq : Nat) (x10_13 : Int), v10 = .int .i64 x10_13 ∧ Aside0 (pomaderef07_product.j1 kq l0 l1 (wrap64 ((l0.length : Int) / 2)) x7_1 x8_1 x9_1 x10_13 = some (r1, r2)) ∧ Aside0 (kq ≤ k1) ∧ Aside0 (Kd.R Kd.bool 4 wc w.heap.size (fun _ => True) v280 x7_1) ∧ Aside0 (Kd.R (Kd.int .i64) 3 wc w.heap.size (fun _ => True) v283 x8_1) ∧ Aside0 (Below w.heap.size w wc))
        case first =>
         have H := HC14.out
         clear HC14
         by_cases c15 : x9_1 ≥ (wrap64 ((l0.length : Int) / 2))
         ·rw [if_pos c15] at H
          have c15b0 : decide ((wrap64 ((l0.length : Int) / 2)) ≤ x9_1) = true := decide_eq_true c15
          (try simp only [hji3] at c15b0)
          (try simp only [hji6] at c15b0)
          clear c15
          (first | rw [c15b0] | (simp only [i64_w, i32_w]; rw [c15b0]) | skip)
          have H' := Aside0.mk H
          clear H
          go_wp2
          go_meet
          case rel => exact ⟨_, (wrap64 (x9_1 + (wrap64 (2 * (wrap64 ((l0.length : Int) / 2)))))), (by first | rfl | (simp; done) | (simp [*]; done)), H', ⟨by have := HK1.out; first | omega | exact Nat.le_refl _⟩, ⟨by (with_reducible repeat (first | apply Kd.R_alloc | apply Kd.R_drewN | apply Kd.R_drew)); exact HO_7.out⟩, ⟨by (with_reducible repeat (first | apply Kd.R_alloc | apply Kd.R_drewN | apply Kd.R_drew)); exact HO_8.out⟩, ⟨by repeat (first | (with_reducible first | exact HB.out | apply below_alloc | apply pw_below_drewN | apply below_drew1) | exact HB.out)⟩⟩
         ·rw [if_neg c15] at H
          have c15b0 : decide ((wrap64 ((l0.length : Int) / 2)) ≤ x9_1) = false := decide_eq_false c15
          (try simp only [hji3] at c15b0)
          (try simp only [hji6] at c15b0)
          clear c15
          (first | rw [c15b0] | (simp only [i64_w, i32_w]; rw [c15b0]) | skip)
          have H' := Aside0.mk H
          clear H
          go_wp2
          go_meet
          case rel => exact ⟨_, (x9_1), (by first | rfl | (simp; done) | (simp [*]; done)), H', ⟨by have := HK1.out; first | omega | exact Nat.le_refl _⟩, ⟨by (with_reducible repeat (first | apply Kd.R_alloc | apply Kd.R_drewN | apply Kd.R_drew)); exact HO_7.out⟩, ⟨by (with_reducible repeat (first | apply Kd.R_alloc | apply Kd.R_drewN | apply Kd.R_drew)); exact HO_8.out⟩, ⟨by repeat (first | (with_reducible first | exact HB.out | apply below_alloc | apply pw_below_drewN | apply below_drew1) | exact HB.out)⟩⟩
        case rest =>
         clear HC14
         try clear c1
         try clear p2
         try clear c4
         try clear c4b0
         try clear c4b1
         try clear c5
         try clear c5b0
         try clear c5b1
         try clear p6
         try clear c7
         try clear c7b0
         try clear c7b1
         try clear c8
         try clear c8b0
         try clear c8b1
         try clear c13
         try clear c13b0
         try clear c15
         try clear c15b0
         try clear p2
         try clear p6
         obtain ⟨kq, x10_13, rfl, HA, HJ13, HO_7, HO_8, HB⟩ := hcut
         cases kq with
         | zero => exact absurd HA.out (by simp [pomaderef07_product.j1])
         | succ kj13 =>
          have H := HA.out
          clear HA
          simp only [pomaderef07_product.j1] at H
          by_cases c16 : 0 ≤ x10_13
          ·rw [if_pos c16] at H
           have c16b0 : decide (0 ≤ x10_13) = true := decide_eq_true c16
           clear c16
           by_cases c17 : x10_13 < (x7_1.length : Int)
           ·rw [if_pos c17] at H
            have c17b0 : decide (x10_13 < (x7_1.length : Int)) = true := decide_eq_true c17
            clear c17
            obtain ⟨y285, hy285⟩ : ∃ y_ : List Bool, y_ = (x7_1.set (x10_13 : Int).toNat true) := ⟨_, rfl⟩
            replace H : (pomaderef07_product.l1 kj13 l0 l1 (wrap64 ((l0.length : Int) / 2)) y285 x8_1 x9_1 x10_13) = some (r1, r2) := by first | (rw [hy285]; with_reducible exact H) | (have H2_ := (Option.bind_some _ _).symm.trans H; rw [hy285]; with_reducible exact H2_) | (have H2_ := (Option.bind_some _ _).symm.trans H; with_reducible exact H2_) | with_reducible exact H | (rw [hy285]; exact H) | exact H
            have Ny285 := Aside0.mk hy285
            clear hy285
            have H' := Aside0.mk H
            clear H
            have p18 : 0 ≤ (x10_13 : Int) := of_decide_eq_true (by first | (with_reducible assumption) | assumption)
            have q18 : (x10_13 : Int) < ((x7_1.length : Int) : Int) := of_decide_eq_true (by first | (with_reducible assumption) | assumption)
            obtain ⟨go18, co18, eo18, gb18, gl18, cl18, HG18⟩ := Kd.R_form HO_7.out (by omega)
            (first | cases eo18 | (injection eo18 with ea_ en_ ec_; (first | subst ea_ | (injection ea_ with ea_; subst ea_)); subst ec_; clear en_))
            (try simp only [add_plain] at *)
            have GB18 := Aside0.mk gb18
            have GG18 := Aside0.mk HG18
            clear gb18 gl18 HG18
            obtain ⟨hx18_0, hf18_0⟩ := Kd.R_celln false HO_7.out (x10_13 : Int) p18 q18
            replace p18 := eq_true p18
            replace q18 := eq_true q18
            have HP19 := Kd.R_putg HO_7.out (x10_13 : Int) true
            go_wp2_with (first | ((with_reducible refine gate_store (t := 4) (p := 39) rfl ?_); refine store_event (t := 4) (p := 39) (v := ?vo_w20) (w1 := (wc.setCell ⟨go18, (x10_13 : Int).toNat, none⟩ (.bool true))) ?hg ?ho ?hn ?hr ?_; (case ho => rfl); (case hg => rfl); (case hn => rfl); (case hr => first | (go_simp; done) | (go_simp; rfl)); intro w20 hw; have hg : wc.grownBy w20 (some go18) := (by rw [hw]; exact HP19.2); have hp_ : Kd.R Kd.bool 4 w20 w.heap.size (fun _ => True) (.slice (some ⟨go18, 0, none⟩) x7_1.length co18) y285 := (by rw [hw, Ny285.out]; exact HP19.1); clear HP19; have n0_ := Aside0.mk (hp_); have n1_ := Aside0.mk (Kd.R_over' (v := (.slice (some ⟨go18, 0, none⟩) x7_1.length co18)) (by (with_reducible repeat (first | apply Kd.R_alloc | apply Kd.R_drewN | apply Kd.R_drew)); exact HO_8.out) (Kd.R_typed HO_7.out) (by decide) hg); have n2_ := Aside0.mk ((by rw [hw]; exact below_set (HB.out) GB18.out : Below w.heap.size w w20)); clear HO_7; clear HO_8; clear HB; have HO_7 := n0_; have HO_8 := n1_; have HB := n2_; clear n0_ n1_ n2_; clear hg hw hp_))
            go_loopg [10] kj13 (fun kq v10 w' => ∃ (x7_3 : List Bool) (x10_3 : Int), v10 = .int .i64 x10_3 ∧ Aside0 (pomaderef07_product.l1 kq l0 l1 (wrap64 ((l0.length : Int) / 2)) x7_3 x8_1 x9_1 x10_3 = some (r1, r2)) ∧ Aside0 (kq ≤ kj13) ∧ Aside0 (Kd.R Kd.bool 4 w' w.heap.size (fun _ => True) (.slice (some ⟨go18, 0, none⟩) x7_1.length co18) x7_3) ∧ Aside0 (Kd.R (Kd.int .i64) 3 w' w.heap.size (fun _ => True) v283 x8_1) ∧ Aside0 (Below w.heap.size w w'))
            case atStart => exact ⟨(y285), (x10_13), (by first | rfl | (simp; done) | (simp [*]; done)), H', ⟨Nat.le_refl _⟩, ⟨by (with_reducible repeat (first | apply Kd.R_alloc | apply Kd.R_drewN | apply Kd.R_drew)); exact HO_7.out⟩, ⟨by (with_reducible repeat (first | apply Kd.R_alloc | apply Kd.R_drewN | apply Kd.R_drew)); exact HO_8.out⟩, ⟨by repeat (first | (with_reducible first | exact HB.out | apply below_alloc | apply pw_below_drewN | apply below_drew1) | exact HB.out)⟩⟩
            case round =>
             clear H'
             try clear c1
             try clear p1
             try clear q1
             try clear hx1
             try clear p2
             try clear c4
             try clear c4b0
             try clear c4b1
             try clear c5
             try clear c5b0
             try clear c5b1
             try clear p6
             try clear c7
             try clear c7b0
             try clear c7b1
             try clear c8
             try clear c8b0
             try clear c8b1
             try clear c13
             try clear c13b0
             try clear c15
             try clear c15b0
             try clear c16
             try clear c16b0
             try clear c17
             try clear c17b0
             try clear p18
             try clear q18
             try clear hx18
             try clear hf18
             try clear hx18_0
             try clear p18
             try clear p2
             try clear p6
             try clear q18
             obtain ⟨x7_3, x10_3, rfl, HA, HK3, HO_7, HO_8, HB⟩ := hrel
             have hl7_3 := (Kd.R_reads' HO_7.out).1
             rw [hl7_3] at HO_7
             (try simp only [hl7_3])
             (try simp only [hl7_3] at HO_8)
             cases gk with
             | zero => exact absurd HA.out (by simp [pomaderef07_product.l1])
             | succ k3 =>
              have H := HA.out
              clear HA
              simp only [pomaderef07_product.l1] at H
              have HC21 := Aside0.mk H
              clear H
              go_upto_if 43 with (fail)
              go_cut [10] (fun v10 wc => ∃ (kq : Nat) (x10_20 : Int), v10 = .int .i64 x10_20 ∧ Aside0 (pomaderef07_product.j3 kq l0 l1 (wrap64 ((l0.length : Int) / 2)) x7_3 x8_1 x9_1 x10_20 = some (r1, r2)) ∧ Aside0 (kq ≤ k3) ∧ Aside0 (Kd.R Kd.bool 4 wc w.heap.size (fun _ => True) (.slice (some ⟨go18, 0, none⟩) x7_3.length co18) x7_3) ∧ Aside0 (Kd.R (Kd.int .i64) 3 wc w.heap.size (fun _ => True) v283 x8_1) ∧ Aside0 (Below w.heap.size w wc))
              case first =>
               have H := HC21.out
               clear HC21
               by_cases c22 : x10_3 < (wrap64 (2 * (wrap64 ((l0.length : Int) / 2))))
               ·rw [if_pos c22] at H
                have c22b0 : decide (x10_3 < (wrap64 (2 * (wrap64 ((l0.length : Int) / 2))))) = true := decide_eq_true c22
                (try simp only [hji3] at c22b0)
                (try simp only [hji6] at c22b0)
                clear c22
                (first | rw [c22b0] | (simp only [i64_w, i32_w]; rw [c22b0]) | skip)
                by_cases c23 : 0 ≤ x10_3
                ·rw [if_pos c23] at H
                 have c23b0 : decide (0 ≤ x10_3) = true := decide_eq_true c23
                 clear c23
                 by_cases c24 : x10_3 < (l0.length : Int)
                 ·rw [if_pos c24] at H
                  have c24b0 : decide (x10_3 < (l0.length : Int)) = true := decide_eq_true c24
                  clear c24
                  have H' := Aside0.mk H
                  clear H
                  have p286 : 0 ≤ (x10_3 : Int) := of_decide_eq_true (by first | (with_reducible assumption) | assumption)
                  have q286 : x10_3 < (l0.length : Int) := of_decide_eq_true (by first | (with_reducible assumption) | assumption)
                  obtain ⟨ad286, e286, hx286_0⟩ := Kd.at_int HR0.out x10_3 p286 q286
                  cases e286
                  replace hx286_0 := (HB.out.cell (World.block_lt_of_cell? w _ hx286_0)).trans hx286_0
                  replace p286 := eq_true p286
                  replace q286 := eq_true q286
                  go_wp2
                  go_meet
                  case rel => exact ⟨_, (rd l0 x10_3), (by first | rfl | (simp; done) | (simp [*]; done)), H', ⟨by have := HK1.out; have := HJ13.out; have := HK3.out; first | omega | exact Nat.le_refl _⟩, ⟨by (try simp only [hl7_3]); (with_reducible repeat (first | apply Kd.R_alloc | apply Kd.R_drewN | apply Kd.R_drew)); exact HO_7.out⟩, ⟨by (try simp only [hl7_3]); (with_reducible repeat (first | apply Kd.R_alloc | apply Kd.R_drewN | apply Kd.R_drew)); exact HO_8.out⟩, ⟨by repeat (first | (with_reducible first | exact HB.out | apply below_alloc | apply pw_below_drewN | apply below_drew1) | exact HB.out)⟩⟩
                 ·rw [if_neg c24] at H
                  exact absurd H (by simp)
                ·rw [if_neg c23] at H
                 exact absurd H (by simp)
               ·rw [if_neg c22] at H
                have c22b0 : decide (x10_3 < (wrap64 (2 * (wrap64 ((l0.length : Int) / 2))))) = false := decide_eq_false c22
                (try simp only [hji3] at c22b0)
                (try simp only [hji6] at c22b0)
                clear c22
                (first | rw [c22b0] | (simp only [i64_w, i32_w]; rw [c22b0]) | skip)
                obtain ⟨ji25, hji25⟩ : ∃ j_ : Int, (wrap64 (x10_3 - (wrap64 (2 * (wrap64 ((l0.length : Int) / 2)))))) = j_ := ⟨_, rfl⟩
                replace H : (if 0 ≤ (ji25) then (if (ji25) < (l1.length : Int) then (pomaderef07_product.j3 k3 l0 l1 (wrap64 ((l0.length : Int) / 2)) x7_3 x8_1 x9_1 (wrap64 ((wrap64 (2 * (wrap64 ((l0.length : Int) / 2)))) + (rd l1 (ji25))))) else (none)) else (none)) = some (r1, r2) := by first | (rw [hji25] at H; exact H) | (simp only [hji25] at H ⊢; exact H)
                have hji25w : (IntKind.i64.wrap (x10_3 - (wrap64 (2 * (wrap64 ((l0.length : Int) / 2)))))) = ji25 := (i64_w _).trans hji25
                (try simp only [hji3] at hji25)
                (try simp only [hji3] at hji25w)
                (try simp only [hji6] at hji25)
                (try simp only [hji6] at hji25w)
                by_cases c26 : 0 ≤ (ji25)
                ·rw [if_pos c26] at H
                 have c26b0 : decide (0 ≤ (ji25)) = true := decide_eq_true c26
                 clear c26
                 by_cases c27 : (ji25) < (l1.length : Int)
                 ·rw [if_pos c27] at H
                  have c27b0 : decide ((ji25) < (l1.length : Int)) = true := decide_eq_true c27
                  clear c27
                  have H' := Aside0.mk H
                  clear H
                  have p287 : 0 ≤ ((ji25) : Int) := of_decide_eq_true (by first | (with_reducible assumption) | assumption)
                  have q287 : (ji25) < (l1.length : Int) := of_decide_eq_true (by first | (with_reducible assumption) | assumption)
                  obtain ⟨ad287, e287, hx287_0⟩ := Kd.at_int HR1.out (ji25) p287 q287
                  cases e287
                  replace hx287_0 := (HB.out.cell (World.block_lt_of_cell? w _ hx287_0)).trans hx287_0
                  replace p287 := eq_true p287
                  replace q287 := eq_true q287
                  go_wp2
                  go_meet
                  case rel => exact ⟨_, (wrap64 ((wrap64 (2 * (wrap64 ((l0.length : Int) / 2)))) + (rd l1 (ji25)))), (by first | rfl | (simp; done) | (simp only [hji3, hji6]; done) | (simp only [← hji25] <;> (first | rfl | simp)) | (simp [*]; done)), H', ⟨by have := HK1.out; have := HJ13.out; have := HK3.out; first | omega | exact Nat.le_refl _⟩, ⟨by (try simp only [hl7_3]); (with_reducible repeat (first | apply Kd.R_alloc | apply Kd.R_drewN | apply Kd.R_drew)); exact HO_7.out⟩, ⟨by (try simp only [hl7_3]); (with_reducible repeat (first | apply Kd.R_alloc | apply Kd.R_drewN | apply Kd.R_drew)); exact HO_8.out⟩, ⟨by repeat (first | (with_reducible first | exact HB.out | apply below_alloc | apply pw_below_drewN | apply below_drew1) | exact HB.out)⟩⟩
                 ·rw [if_neg c27] at H
                  exact absurd H (by simp)
                ·rw [if_neg c26] at H
                 exact absurd H (by simp)
              case rest =>
               clear HC21
               try clear c1
               try clear p1
               try clear q1
               try clear hx1
               try clear c2
               try clear p2
               try clear q2
               try clear hx2
               try clear c4
               try clear c4b0
               try clear c4b1
               try clear c5
               try clear c5b0
               try clear c5b1
               try clear p6
               try clear c7
               try clear c7b0
               try clear c7b1
               try clear c8
               try clear c8b0
               try clear c8b1
               try clear c13
               try clear c13b0
               try clear c15
               try clear c15b0
               try clear c16
               try clear c16b0
               try clear c17
               try clear c17b0
               try clear p18
               try clear q18
               try clear hx18
               try clear hf18
               try clear c22
               try clear c22b0
               try clear c23
               try clear c23b0
               try clear c24
               try clear c24b0
               try clear c26
               try clear c26b0
               try clear c27
               try clear c27b0
               try clear hx18_0
               try clear hx286_0
               try clear hx287_0
               try clear p1
               try clear p18
               try clear p2
               try clear p286
               try clear p287
               try clear p6
               try clear q1
               try clear q18
               try clear q286
               try clear q287
               obtain ⟨kq, x10_20, rfl, HA, HJ20, HO_7, HO_8, HB⟩ := hcut
               cases kq with
               | zero => exact absurd HA.out (by simp [pomaderef07_product.j3])
               | succ kj20 =>
                have H := HA.out
                clear HA
                simp only [pomaderef07_product.j3] at H
                by_cases c28 : 0 ≤ x10_20
                ·rw [if_pos c28] at H
                 have c28b0 : decide (0 ≤ x10_20) = true := decide_eq_true c28
                 clear c28
                 by_cases c29 : x10_20 < (x7_3.length : Int)
                 ·rw [if_pos c29] at H
                  have c29b0 : decide (x10_20 < (x7_3.length : Int)) = true := decide_eq_true c29
                  clear c29
                  obtain ⟨y288, hy288⟩ : ∃ y_ : List Bool, y_ = (x7_3.set (x10_20 : Int).toNat true) := ⟨_, rfl⟩
                  replace H : (if x10_20 < (wrap64 ((l0.length : Int) / 2)) then (pomaderef07_product.j4 kj20 l0 l1 (wrap64 ((l0.length : Int) / 2)) y288 x8_1 x9_1 x10_20 true) else (pomaderef07_product.j4 kj20 l0 l1 (wrap64 ((l0.length : Int) / 2)) y288 x8_1 x9_1 x10_20 (decide (x10_20 ≥ (wrap64 (3 * (wrap64 ((l0.length : Int) / 2)))))))) = some (r1, r2) := by first | (rw [hy288]; with_reducible exact H) | (have H2_ := (Option.bind_some _ _).symm.trans H; rw [hy288]; with_reducible exact H2_) | (have H2_ := (Option.bind_some _ _).symm.trans H; with_reducible exact H2_) | with_reducible exact H | (rw [hy288]; exact H) | exact H
                  have Ny288 := Aside0.mk hy288
                  clear hy288
                  have HC31 := Aside0.mk H
                  clear H
                  have p30 : 0 ≤ (x10_20 : Int) := of_decide_eq_true (by first | (with_reducible assumption) | assumption)
                  have q30 : (x10_20 : Int) < ((x7_3.length : Int) : Int) := of_decide_eq_true (by first | (with_reducible assumption) | assumption)
                  obtain ⟨hx30_0, hf30_0⟩ := Kd.R_celln false HO_7.out (x10_20 : Int) p30 q30
                  replace p30 := eq_true p30
                  replace q30 := eq_true q30
                  have HP32 := Kd.R_putg HO_7.out (x10_20 : Int) true
                  go_upto_region 15 with (first | ((with_reducible refine gate_store (t := 4) (p := 60) rfl ?_); refine store_event (t := 4) (p := 60) (v := ?vo_w33) (w1 := (wc.setCell ⟨go18, (x10_20 : Int).toNat, none⟩ (.bool true))) ?hg ?ho ?hn ?hr ?_; (case ho => rfl); (case hg => rfl); (case hn => rfl); (case hr => first | (go_simp; done) | (go_simp; rfl)); intro w33 hw; have hg : wc.grownBy w33 (some go18) := (by rw [hw]; exact HP32.2); have hp_ : Kd.R Kd.bool 4 w33 w.heap.size (fun _ => True) (.slice (some ⟨go18, 0, none⟩) x7_3.length co18) y288 := (by rw [hw, Ny288.out]; exact HP32.1); clear HP32; have n0_ := Aside0.mk (hp_); have n1_ := Aside0.mk (Kd.R_over' (v := (.slice (some ⟨go18, 0, none⟩) x7_3.length co18)) (by (with_reducible repeat (first | apply Kd.R_alloc | apply Kd.R_drewN | apply Kd.R_drew)); exact HO_8.out) (Kd.R_typed HO_7.out) (by decide) hg); have n2_ := Aside0.mk ((by rw [hw]; exact below_set (HB.out) GB18.out : Below w.heap.size w w33)); clear HO_7; clear HO_8; clear HB; have HO_7 := n0_; have HO_8 := n1_; have HB := n2_; clear n0_ n1_ n2_; clear hg hw hp_))
                  (try simp only [Act.put, List.setIfInBounds_toArray, List.set_cons_zero, List.set_cons_succ])
                  go_cut [69] (fun v69 wc => ∃ (kq : Nat) (x69_30 : Bool), v69 = .bool x69_30 ∧ Aside0 (pomaderef07_product.j4 kq l0 l1 (wrap64 ((l0.length : Int) / 2)) y288 x8_1 x9_1 x10_20 x69_30 = some (r1, r2)) ∧ Aside0 (kq ≤ kj20) ∧ Aside0 (Kd.R Kd.bool 4 wc w.heap.size (fun _ => True) (.slice (some ⟨go18, 0, none⟩) x7_3.length co18) y288) ∧ Aside0 (Kd.R (Kd.int .i64) 3 wc w.heap.size (fun _ => True) v283 x8_1) ∧ Aside0 (Below w.heap.size w wc))
                  case first =>
                   have H := HC31.out
                   clear HC31
                   by_cases c34 : x10_20 < (wrap64 ((l0.length : Int) / 2))
                   ·rw [if_pos c34] at H
                    have c34b0 : decide (x10_20 < (wrap64 ((l0.length : Int) / 2))) = true := decide_eq_true c34
                    (try simp only [hji3] at c34b0)
                    (try simp only [hji6] at c34b0)
                    (try simp only [hji25] at c34b0)
                    clear c34
                    (first | rw [c34b0] | (simp only [i64_w, i32_w]; rw [c34b0]) | skip)
                    have H' := Aside0.mk H
                    clear H
                    go_wp2
                    go_meet
                    case rel => exact ⟨_, (true), (by first | rfl | (simp; done) | (simp [*]; done)), H', ⟨by have := HK1.out; have := HJ13.out; have := HK3.out; have := HJ20.out; first | omega | exact Nat.le_refl _⟩, ⟨by (try simp only [hl7_3]); (with_reducible repeat (first | apply Kd.R_alloc | apply Kd.R_drewN | apply Kd.R_drew)); exact HO_7.out⟩, ⟨by (try simp only [hl7_3]); (with_reducible repeat (first | apply Kd.R_alloc | apply Kd.R_drewN | apply Kd.R_drew)); exact HO_8.out⟩, ⟨by repeat (first | (with_reducible first | exact HB.out | apply below_alloc | apply pw_below_drewN | apply below_drew1) | exact HB.out)⟩⟩
                   ·rw [if_neg c34] at H
                    have c34b0 : decide (x10_20 < (wrap64 ((l0.length : Int) / 2))) = false := decide_eq_false c34
                    (try simp only [hji3] at c34b0)
                    (try simp only [hji6] at c34b0)
                    (try simp only [hji25] at c34b0)
                    clear c34
                    (first | rw [c34b0] | (simp only [i64_w, i32_w]; rw [c34b0]) | skip)
                    have H' := Aside0.mk H
                    clear H
                    go_wp2
                    go_meet
                    case rel => exact ⟨_, (decide (x10_20 ≥ (wrap64 (3 * (wrap64 ((l0.length : Int) / 2)))))), (by first | rfl | (simp; done) | (simp [*]; done)), H', ⟨by have := HK1.out; have := HJ13.out; have := HK3.out; have := HJ20.out; first | omega | exact Nat.le_refl _⟩, ⟨by (try simp only [hl7_3]); (with_reducible repeat (first | apply Kd.R_alloc | apply Kd.R_drewN | apply Kd.R_drew)); exact HO_7.out⟩, ⟨by (try simp only [hl7_3]); (with_reducible repeat (first | apply Kd.R_alloc | apply Kd.R_drewN | apply Kd.R_drew)); exact HO_8.out⟩, ⟨by repeat (first | (with_reducible first | exact HB.out | apply below_alloc | apply pw_below_drewN | apply below_drew1) | exact HB.out)⟩⟩
                  case rest =>
                   clear HC31
                   try clear c1
                   try clear p1
                   try clear q1
                   try clear hx1
                   try clear c2
                   try clear p2
                   try clear q2
                   try clear hx2
                   try clear c3
                   try clear p3
                   try clear q3
                   try clear hx3
                   try clear hf3
                   try clear c4
                   try clear c4b0
                   try clear c4b1
                   try clear c5
                   try clear c5b0
                   try clear c5b1
                   try clear p6
                   try clear c7
                   try clear c7b0
                   try clear c7b1
                   try clear c8
                   try clear c8b0
                   try clear c8b1
                   try clear c13
                   try clear c13b0
                   try clear c15
                   try clear c15b0
                   try clear c16
                   try clear c16b0
                   try clear c17
                   try clear c17b0
                   try clear p18
                   try clear q18
                   try clear hx18
                   try clear hf18
                   try clear c22
                   try clear c22b0
                   try clear c23
                   try clear c23b0
                   try clear c24
                   try clear c24b0
                   try clear c26
                   try clear c26b0
                   try clear c27
                   try clear c27b0
                   try clear c28
                   try clear c28b0
                   try clear p28
                   try clear q28
                   try clear hx28
                   try clear c29
                   try clear c29b0
                   try clear p30
                   try clear q30
                   try clear hx30
                   try clear hf30
                   try clear c34
                   try clear c34b0
                   try clear hx18_0
                   try clear hx286_0
                   try clear hx287_0
                   try clear hx30_0
                   try clear p1
                   try clear p18
                   try clear p2
                   try clear p286
                   try clear p287
                   try clear p30
                   try clear p6
                   try clear q1
                   try clear q18
                   try clear q2
                   try clear q286
                   try clear q287
                   try clear q30
                   obtain ⟨kq, x69_30, rfl, HA, HJ30, HO_7, HO_8, HB⟩ := hcut
                   have hl7_30 := (Kd.R_reads' HO_7.out).1
                   rw [hl7_30] at HO_7
                   (try simp only [hl7_30])
                   (try simp only [hl7_30] at HO_8)
                   cases kq with
                   | zero => exact absurd HA.out (by simp [pomaderef07_product.j4])
                   | succ kj30 =>
                    have H := HA.out
                    clear HA
                    simp only [pomaderef07_product.j4] at H
                    by_cases c35 : x69_30 = true
                    ·subst c35
                     have H1 : (if x10_20 ≥ (wrap64 (3 * (wrap64 ((l0.length : Int) / 2)))) then (if 0 ≤ x9_1 then (if x9_1 < (x8_1.length : Int) then (pomaderef07_product.l0 kj30 l0 l1 (wrap64 ((l0.length : Int) / 2)) y288 (x8_1.set (x9_1 : Int).toNat (wrap64 (x10_20 - (wrap64 (2 * (wrap64 ((l0.length : Int) / 2))))))) (wrap64 (x9_1 + 1))) else (none)) else (none)) else (if 0 ≤ x9_1 then (if x9_1 < (x8_1.length : Int) then (pomaderef07_product.l0 kj30 l0 l1 (wrap64 ((l0.length : Int) / 2)) y288 (x8_1.set (x9_1 : Int).toNat x10_20) (wrap64 (x9_1 + 1))) else (none)) else (none))) = some (r1, r2) := by rw [if_pos rfl] at H; exact H
                     clear H
                     have H := H1
                     clear H1
                     by_cases c36 : x10_20 ≥ (wrap64 (3 * (wrap64 ((l0.length : Int) / 2))))
                     ·rw [if_pos c36] at H
                      have c36b0 : decide ((wrap64 (3 * (wrap64 ((l0.length : Int) / 2)))) ≤ x10_20) = true := decide_eq_true c36
                      (try simp only [hji3] at c36b0)
                      (try simp only [hji6] at c36b0)
                      (try simp only [hji25] at c36b0)
                      clear c36
                      by_cases c37 : 0 ≤ x9_1
                      ·rw [if_pos c37] at H
                       have c37b0 : decide (0 ≤ x9_1) = true := decide_eq_true c37
                       clear c37
                       by_cases c38 : x9_1 < (x8_1.length : Int)
                       ·rw [if_pos c38] at H
                        have c38b0 : decide (x9_1 < (x8_1.length : Int)) = true := decide_eq_true c38
                        clear c38
                        obtain ⟨y289, hy289⟩ : ∃ y_ : List Int, y_ = (x8_1.set (x9_1 : Int).toNat (wrap64 (x10_20 - (wrap64 (2 * (wrap64 ((l0.length : Int) / 2))))))) := ⟨_, rfl⟩
                        replace H : (pomaderef07_product.l0 kj30 l0 l1 (wrap64 ((l0.length : Int) / 2)) y288 y289 (wrap64 (x9_1 + 1))) = some (r1, r2) := by first | (rw [hy289]; with_reducible exact H) | (have H2_ := (Option.bind_some _ _).symm.trans H; rw [hy289]; with_reducible exact H2_) | (have H2_ := (Option.bind_some _ _).symm.trans H; with_reducible exact H2_) | with_reducible exact H | (rw [hy289]; exact H) | exact H
                        have Ny289 := Aside0.mk hy289
                        clear hy289
                        have H' := Aside0.mk H
                        clear H
                        have p39 : 0 ≤ (x9_1 : Int) := of_decide_eq_true (by first | (with_reducible assumption) | assumption)
                        have q39 : (x9_1 : Int) < ((x8_1.length : Int) : Int) := of_decide_eq_true (by first | (with_reducible assumption) | assumption)
                        obtain ⟨go39, co39, eo39, gb39, gl39, cl39, HG39⟩ := Kd.R_form HO_8.out (by omega)
                        (first | cases eo39 | (injection eo39 with ea_ en_ ec_; (first | subst ea_ | (injection ea_ with ea_; subst ea_)); subst ec_; clear en_))
                        (try simp only [add_plain] at *)
                        have GB39 := Aside0.mk gb39
                        have GG39 := Aside0.mk HG39
                        clear gb39 gl39 HG39
                        obtain ⟨hx39_0, hf39_0⟩ := Kd.R_celln 0 HO_8.out (x9_1 : Int) p39 q39
                        replace p39 := eq_true p39
                        replace q39 := eq_true q39
                        have HP40 := Kd.R_putg HO_8.out (x9_1 : Int) (wrap64 (x10_20 - (wrap64 (2 * (wrap64 ((l0.length : Int) / 2))))))
                        go_wp2_with (first | ((with_reducible refine gate_store (t := 3) (p := 94) rfl ?_); refine store_event (t := 3) (p := 94) (v := ?vo_w41) (w1 := (wc.setCell ⟨go39, (x9_1 : Int).toNat, none⟩ (.int .i64 (wrap64 (x10_20 - (wrap64 (2 * (wrap64 ((l0.length : Int) / 2))))))))) ?hg ?ho ?hn ?hr ?_; (case ho => rfl); (case hg => rfl); (case hn => rfl); (case hr => first | (go_simp; done) | (go_simp; rfl)); intro w41 hw; have hg : wc.grownBy w41 (some go39) := (by rw [hw]; exact HP40.2); have hp_ : Kd.R (Kd.int .i64) 3 w41 w.heap.size (fun _ => True) (.slice (some ⟨go39, 0, none⟩) x8_1.length co39) y289 := (by rw [hw, Ny289.out]; exact HP40.1); clear HP40; have n0_ := Aside0.mk (Kd.R_over' (v := (.slice (some ⟨go39, 0, none⟩) x8_1.length co39)) (by (with_reducible repeat (first | apply Kd.R_alloc | apply Kd.R_drewN | apply Kd.R_drew)); exact HO_7.out) (Kd.R_typed HO_8.out) (by decide) hg); have n1_ := Aside0.mk (hp_); have n2_ := Aside0.mk ((by rw [hw]; exact below_set (HB.out) GB39.out : Below w.heap.size w w41)); clear HO_7; clear HO_8; clear HB; have HO_7 := n0_; have HO_8 := n1_; have HB := n2_; clear n0_ n1_ n2_; clear hg hw hp_))
                        (try simp only [← hl7_3, ← hl7_30])
                        go_roundg kj30
                        case measure => have := HK1.out; have := HJ13.out; have := HK3.out; have := HJ20.out; have := HJ30.out; omega
                        case rel => exact ⟨(y288), (y289), (wrap64 (x9_1 + 1)), (by first | rfl | (simp; done) | (simp [*]; done)), H', ⟨by have := HK1.out; have := HJ13.out; have := HK3.out; have := HJ20.out; have := HJ30.out; omega⟩, ⟨by (try simp only [hl7_3]); (try simp only [hl7_30]); (with_reducible repeat (first | apply Kd.R_alloc | apply Kd.R_drewN | apply Kd.R_drew)); exact HO_7.out⟩, ⟨by (try simp only [hl7_3]); (try simp only [hl7_30]); (with_reducible repeat (first | apply Kd.R_alloc | apply Kd.R_drewN | apply Kd.R_drew)); exact HO_8.out⟩, ⟨by repeat (first | (with_reducible first | exact HB.out | apply below_alloc | apply pw_below_drewN | apply below_drew1) | exact HB.out)⟩⟩
                       ·rw [if_neg c38] at H
                        exact absurd H (by simp)
                      ·rw [if_neg c37] at H
                       exact absurd H (by simp)
                     ·rw [if_neg c36] at H
                      have c36b0 : decide ((wrap64 (3 * (wrap64 ((l0.length : Int) / 2)))) ≤ x10_20) = false := decide_eq_false c36
                      (try simp only [hji3] at c36b0)
                      (try simp only [hji6] at c36b0)
                      (try simp only [hji25] at c36b0)
                      clear c36
                      by_cases c42 : 0 ≤ x9_1
                      ·rw [if_pos c42] at H
                       have c42b0 : decide (0 ≤ x9_1) = true := decide_eq_true c42
                       clear c42
                       by_cases c43 : x9_1 < (x8_1.length : Int)
                       ·rw [if_pos c43] at H
                        have c43b0 : decide (x9_1 < (x8_1.length : Int)) = true := decide_eq_true c43
                        clear c43
                        obtain ⟨y290, hy290⟩ : ∃ y_ : List Int, y_ = (x8_1.set (x9_1 : Int).toNat x10_20) := ⟨_, rfl⟩
                        replace H : (pomaderef07_product.l0 kj30 l0 l1 (wrap64 ((l0.length : Int) / 2)) y288 y290 (wrap64 (x9_1 + 1))) = some (r1, r2) := by first | (rw [hy290]; with_reducible exact H) | (have H2_ := (Option.bind_some _ _).symm.trans H; rw [hy290]; with_reducible exact H2_) | (have H2_ := (Option.bind_some _ _).symm.trans H; with_reducible exact H2_) | with_reducible exact H | (rw [hy290]; exact H) | exact H
                        have Ny290 := Aside0.mk hy290
                        clear hy290
                        have H' := Aside0.mk H
                        clear H
                        have p44 : 0 ≤ (x9_1 : Int) := of_decide_eq_true (by first | (with_reducible assumption) | assumption)
                        have q44 : (x9_1 : Int) < ((x8_1.length : Int) : Int) := of_decide_eq_true (by first | (with_reducible assumption) | assumption)
                        obtain ⟨go44, co44, eo44, gb44, gl44, cl44, HG44⟩ := Kd.R_form HO_8.out (by omega)
                        (first | cases eo44 | (injection eo44 with ea_ en_ ec_; (first | subst ea_ | (injection ea_ with ea_; subst ea_)); subst ec_; clear en_))
                        (try simp only [add_plain] at *)
                        have GB44 := Aside0.mk gb44
                        have GG44 := Aside0.mk HG44
                        clear gb44 gl44 HG44
                        obtain ⟨hx44_0, hf44_0⟩ := Kd.R_celln 0 HO_8.out (x9_1 : Int) p44 q44
                        replace p44 := eq_true p44
                        replace q44 := eq_true q44
                        have HP45 := Kd.R_putg HO_8.out (x9_1 : Int) x10_20
                        go_wp2_with (first | ((with_reducible refine gate_store (t := 3) (p := 94) rfl ?_); refine store_event (t := 3) (p := 94) (v := ?vo_w46) (w1 := (wc.setCell ⟨go44, (x9_1 : Int).toNat, none⟩ (.int .i64 x10_20))) ?hg ?ho ?hn ?hr ?_; (case ho => rfl); (case hg => rfl); (case hn => rfl); (case hr => first | (go_simp; done) | (go_simp; rfl)); intro w46 hw; have hg : wc.grownBy w46 (some go44) := (by rw [hw]; exact HP45.2); have hp_ : Kd.R (Kd.int .i64) 3 w46 w.heap.size (fun _ => True) (.slice (some ⟨go44, 0, none⟩) x8_1.length co44) y290 := (by rw [hw, Ny290.out]; exact HP45.1); clear HP45; have n0_ := Aside0.mk (Kd.R_over' (v := (.slice (some ⟨go44, 0, none⟩) x8_1.length co44)) (by (with_reducible repeat (first | apply Kd.R_alloc | apply Kd.R_drewN | apply Kd.R_drew)); exact HO_7.out) (Kd.R_typed HO_8.out) (by decide) hg); have n1_ := Aside0.mk (hp_); have n2_ := Aside0.mk ((by rw [hw]; exact below_set (HB.out) GB44.out : Below w.heap.size w w46)); clear HO_7; clear HO_8; clear HB; have HO_7 := n0_; have HO_8 := n1_; have HB := n2_; clear n0_ n1_ n2_; clear hg hw hp_))
                        (try simp only [← hl7_3, ← hl7_30])
                        go_roundg kj30
                        case measure => have := HK1.out; have := HJ13.out; have := HK3.out; have := HJ20.out; have := HJ30.out; omega
                        case rel => exact ⟨(y288), (y290), (wrap64 (x9_1 + 1)), (by first | rfl | (simp; done) | (simp [*]; done)), H', ⟨by have := HK1.out; have := HJ13.out; have := HK3.out; have := HJ20.out; have := HJ30.out; omega⟩, ⟨by (try simp only [hl7_3]); (try simp only [hl7_30]); (with_reducible repeat (first | apply Kd.R_alloc | apply Kd.R_drewN | apply Kd.R_drew)); exact HO_7.out⟩, ⟨by (try simp only [hl7_3]); (try simp only [hl7_30]); (with_reducible repeat (first | apply Kd.R_alloc | apply Kd.R_drewN | apply Kd.R_drew)); exact HO_8.out⟩, ⟨by repeat (first | (with_reducible first | exact HB.out | apply below_alloc | apply pw_below_drewN | apply below_drew1) | exact HB.out)⟩⟩
                       ·rw [if_neg c43] at H
                        exact absurd H (by simp)
                      ·rw [if_neg c42] at H
                       exact absurd H (by simp)
                    ·replace c35 := Bool.eq_false_iff.mpr c35
                     subst c35
                     have H1 : (if x10_20 < (wrap64 (2 * (wrap64 ((l0.length : Int) / 2)))) then (if 0 ≤ (wrap64 (x10_20 + (wrap64 ((l0.length : Int) / 2)))) then (if (wrap64 (x10_20 + (wrap64 ((l0.length : Int) / 2)))) < (y288.length : Int) then (pomaderef07_product.l1 kj30 l0 l1 (wrap64 ((l0.length : Int) / 2)) (y288.set ((wrap64 (x10_20 + (wrap64 ((l0.length : Int) / 2)))) : Int).toNat true) x8_1 x9_1 (wrap64 (x10_20 + (wrap64 ((l0.length : Int) / 2))))) else (none)) else (none)) else (if 0 ≤ (wrap64 (x10_20 - (wrap64 ((l0.length : Int) / 2)))) then (if (wrap64 (x10_20 - (wrap64 ((l0.length : Int) / 2)))) < (y288.length : Int) then (pomaderef07_product.l1 kj30 l0 l1 (wrap64 ((l0.length : Int) / 2)) (y288.set ((wrap64 (x10_20 - (wrap64 ((l0.length : Int) / 2)))) : Int).toNat true) x8_1 x9_1 (wrap64 (x10_20 - (wrap64 ((l0.length : Int) / 2))))) else (none)) else (none))) = some (r1, r2) := by rw [if_neg (show ¬ (false = true) by decide)] at H; exact H
                     clear H
                     have H := H1
                     clear H1
                     by_cases c47 : x10_20 < (wrap64 (2 * (wrap64 ((l0.length : Int) / 2))))
                     ·rw [if_pos c47] at H
                      have c47b0 : decide (x10_20 < (wrap64 (2 * (wrap64 ((l0.length : Int) / 2))))) = true := decide_eq_true c47
                      (try simp only [hji3] at c47b0)
                      (try simp only [hji6] at c47b0)
                      (try simp only [hji25] at c47b0)
                      clear c47
                      obtain ⟨ji48, hji48⟩ : ∃ j_ : Int, (wrap64 (x10_20 + (wrap64 ((l0.length : Int) / 2)))) = j_ := ⟨_, rfl⟩
                      replace H : (if 0 ≤ (ji48) then (if (ji48) < (y288.length : Int) then (pomaderef07_product.l1 kj30 l0 l1 (wrap64 ((l0.length : Int) / 2)) (y288.set ((ji48) : Int).toNat true) x8_1 x9_1 ji48) else (none)) else (none)) = some (r1, r2) := by first | (rw [hji48] at H; exact H) | (simp only [hji48] at H ⊢; exact H)
                      have hji48w : (IntKind.i64.wrap (x10_20 + (wrap64 ((l0.length : Int) / 2)))) = ji48 := (i64_w _).trans hji48
                      (try simp only [hji3] at hji48)
                      (try simp only [hji3] at hji48w)
                      (try simp only [hji6] at hji48)
                      (try simp only [hji6] at hji48w)
                      (try simp only [hji25] at hji48)
                      (try simp only [hji25] at hji48w)
                      by_cases c49 : 0 ≤ (ji48)
                      ·rw [if_pos c49] at H
                       have c49b0 : decide (0 ≤ (ji48)) = true := decide_eq_true c49
                       clear c49
                       by_cases c50 : (ji48) < (y288.length : Int)
                       ·rw [if_pos c50] at H
                        have c50b0 : decide ((ji48) < (y288.length : Int)) = true := decide_eq_true c50
                        clear c50
                        obtain ⟨y291, hy291⟩ : ∃ y_ : List Bool, y_ = (y288.set ((ji48) : Int).toNat true) := ⟨_, rfl⟩
                        replace H : (pomaderef07_product.l1 kj30 l0 l1 (wrap64 ((l0.length : Int) / 2)) y291 x8_1 x9_1 ji48) = some (r1, r2) := by first | (rw [hy291]; with_reducible exact H) | (have H2_ := (Option.bind_some _ _).symm.trans H; rw [hy291]; with_reducible exact H2_) | (have H2_ := (Option.bind_some _ _).symm.trans H; with_reducible exact H2_) | with_reducible exact H | (rw [hy291]; exact H) | exact H
                        have Ny291 := Aside0.mk hy291
                        clear hy291
                        have H' := Aside0.mk H
                        clear H
                        have p51 : 0 ≤ ((ji48) : Int) := of_decide_eq_true (by first | (with_reducible assumption) | assumption)
                        have q51 : ((ji48) : Int) < ((y288.length : Int) : Int) := of_decide_eq_true (by first | (with_reducible assumption) | assumption)
                        obtain ⟨hx51_0, hf51_0⟩ := Kd.R_celln false HO_7.out ((ji48) : Int) p51 q51
                        replace p51 := eq_true p51
                        replace q51 := eq_true q51
                        have HP52 := Kd.R_putg HO_7.out ((ji48) : Int) true
                        go_wp2_with (first | ((with_reducible refine gate_store (t := 4) (p := 82) rfl ?_); refine store_event (t := 4) (p := 82) (v := ?vo_w53) (w1 := (wc.setCell ⟨go18, ((ji48) : Int).toNat, none⟩ (.bool true))) ?hg ?ho ?hn ?hr ?_; (case ho => rfl); (case hg => rfl); (case hn => rfl); (case hr => first | (go_simp; done) | (go_simp; rfl)); intro w53 hw; have hg : wc.grownBy w53 (some go18) := (by rw [hw]; exact HP52.2); have hp_ : Kd.R Kd.bool 4 w53 w.heap.size (fun _ => True) (.slice (some ⟨go18, 0, none⟩) y288.length co18) y291 := (by rw [hw, Ny291.out]; exact HP52.1); clear HP52; have n0_ := Aside0.mk (hp_); have n1_ := Aside0.mk (Kd.R_over' (v := (.slice (some ⟨go18, 0, none⟩) y288.length co18)) (by (with_reducible repeat (first | apply Kd.R_alloc | apply Kd.R_drewN | apply Kd.R_drew)); exact HO_8.out) (Kd.R_typed HO_7.out) (by decide) hg); have n2_ := Aside0.mk ((by rw [hw]; exact below_set (HB.out) GB18.out : Below w.heap.size w w53)); clear HO_7; clear HO_8; clear HB; have HO_7 := n0_; have HO_8 := n1_; have HB := n2_; clear n0_ n1_ n2_; clear hg hw hp_))
                        (try simp only [← hl7_3, ← hl7_30])
                        go_roundg kj30
                        case measure => have := HK1.out; have := HJ13.out; have := HK3.out; have := HJ20.out; have := HJ30.out; omega
                        case rel => exact ⟨(y291), (ji48), (by first | rfl | (simp; done) | (simp only [hji3, hji6]; done) | (simp only [← hji48] <;> (first | rfl | simp)) | (simp [*]; done)), H', ⟨by have := HK1.out; have := HJ13.out; have := HK3.out; have := HJ20.out; have := HJ30.out; omega⟩, ⟨by (try simp only [hl7_3]); (try simp only [hl7_30]); (with_reducible repeat (first | apply Kd.R_alloc | apply Kd.R_drewN | apply Kd.R_drew)); exact HO_7.out⟩, ⟨by (try simp only [hl7_3]); (try simp only [hl7_30]); (with_reducible repeat (first | apply Kd.R_alloc | apply Kd.R_drewN | apply Kd.R_drew)); exact HO_8.out⟩, ⟨by repeat (first | (with_reducible first | exact HB.out | apply below_alloc | apply pw_below_drewN | apply below_drew1) | exact HB.out)⟩⟩
                       ·rw [if_neg c50] at H
                        exact absurd H (by simp)
                      ·rw [if_neg c49] at H
                       exact absurd H (by simp)
                     ·rw [if_neg c47] at H
                      have c47b0 : decide (x10_20 < (wrap64 (2 * (wrap64 ((l0.length : Int) / 2))))) = false := decide_eq_false c47
                      (try simp only [hji3] at c47b0)
                      (try simp only [hji6] at c47b0)
                      (try simp only [hji25] at c47b0)
                      (try simp only [hji48] at c47b0)
                      clear c47
                      obtain ⟨ji54, hji54⟩ : ∃ j_ : Int, (wrap64 (x10_20 - (wrap64 ((l0.length : Int) / 2)))) = j_ := ⟨_, rfl⟩
                      replace H : (if 0 ≤ (ji54) then (if (ji54) < (y288.length : Int) then (pomaderef07_product.l1 kj30 l0 l1 (wrap64 ((l0.length : Int) / 2)) (y288.set ((ji54) : Int).toNat true) x8_1 x9_1 ji54) else (none)) else (none)) = some (r1, r2) := by first | (rw [hji54] at H; exact H) | (simp only [hji54] at H ⊢; exact H)
                      have hji54w : (IntKind.i64.wrap (x10_20 - (wrap64 ((l0.length : Int) / 2)))) = ji54 := (i64_w _).trans hji54
                      (try simp only [hji3] at hji54)
                      (try simp only [hji3] at hji54w)
                      (try simp only [hji6] at hji54)
                      (try simp only [hji6] at hji54w)
                      (try simp only [hji25] at hji54)
                      (try simp only [hji25] at hji54w)
                      (try simp only [hji48] at hji54)
                      (try simp only [hji48] at hji54w)
                      by_cases c55 : 0 ≤ (ji54)
                      ·rw [if_pos c55] at H
                       have c55b0 : decide (0 ≤ (ji54)) = true := decide_eq_true c55
                       clear c55
                       by_cases c56 : (ji54) < (y288.length : Int)
                       ·rw [if_pos c56] at H
                        have c56b0 : decide ((ji54) < (y288.length : Int)) = true := decide_eq_true c56
                        clear c56
                        obtain ⟨y292, hy292⟩ : ∃ y_ : List Bool, y_ = (y288.set ((ji54) : Int).toNat true) := ⟨_, rfl⟩
                        replace H : (pomaderef07_product.l1 kj30 l0 l1 (wrap64 ((l0.length : Int) / 2)) y292 x8_1 x9_1 ji54) = some (r1, r2) := by first | (rw [hy292]; with_reducible exact H) | (have H2_ := (Option.bind_some _ _).symm.trans H; rw [hy292]; with_reducible exact H2_) | (have H2_ := (Option.bind_some _ _).symm.trans H; with_reducible exact H2_) | with_reducible exact H | (rw [hy292]; exact H) | exact H
                        have Ny292 := Aside0.mk hy292
                        clear hy292
                        have H' := Aside0.mk H
                        clear H
                        have p57 : 0 ≤ ((ji54) : Int) := of_decide_eq_true (by first | (with_reducible assumption) | assumption)
                        have q57 : ((ji54) : Int) < ((y288.length : Int) : Int) := of_decide_eq_true (by first | (with_reducible assumption) | assumption)
                        obtain ⟨hx57_0, hf57_0⟩ := Kd.R_celln false HO_7.out ((ji54) : Int) p57 q57
                        replace p57 := eq_true p57
                        replace q57 := eq_true q57
                        have HP58 := Kd.R_putg HO_7.out ((ji54) : Int) true
                        go_wp2_with (first | ((with_reducible refine gate_store (t := 4) (p := 82) rfl ?_); refine store_event (t := 4) (p := 82) (v := ?vo_w59) (w1 := (wc.setCell ⟨go18, ((ji54) : Int).toNat, none⟩ (.bool true))) ?hg ?ho ?hn ?hr ?_; (case ho => rfl); (case hg => rfl); (case hn => rfl); (case hr => first | (go_simp; done) | (go_simp; rfl)); intro w59 hw; have hg : wc.grownBy w59 (some go18) := (by rw [hw]; exact HP58.2); have hp_ : Kd.R Kd.bool 4 w59 w.heap.size (fun _ => True) (.slice (some ⟨go18, 0, none⟩) y288.length co18) y292 := (by rw [hw, Ny292.out]; exact HP58.1); clear HP58; have n0_ := Aside0.mk (hp_); have n1_ := Aside0.mk (Kd.R_over' (v := (.slice (some ⟨go18, 0, none⟩) y288.length co18)) (by (with_reducible repeat (first | apply Kd.R_alloc | apply Kd.R_drewN | apply Kd.R_drew)); exact HO_8.out) (Kd.R_typed HO_7.out) (by decide) hg); have n2_ := Aside0.mk ((by rw [hw]; exact below_set (HB.out) GB18.out : Below w.heap.size w w59)); clear HO_7; clear HO_8; clear HB; have HO_7 := n0_; have HO_8 := n1_; have HB := n2_; clear n0_ n1_ n2_; clear hg hw hp_))
                        (try simp only [← hl7_3, ← hl7_30])
                        go_roundg kj30
                        case measure => have := HK1.out; have := HJ13.out; have := HK3.out; have := HJ20.out; have := HJ30.out; omega
                        case rel => exact ⟨(y292), (ji54), (by first | rfl | (simp; done) | (simp only [hji3, hji6]; done) | (simp only [← hji54] <;> (first | rfl | simp)) | (simp [*]; done)), H', ⟨by have := HK1.out; have := HJ13.out; have := HK3.out; have := HJ20.out; have := HJ30.out; omega⟩, ⟨by (try simp only [hl7_3]); (try simp only [hl7_30]); (with_reducible repeat (first | apply Kd.R_alloc | apply Kd.R_drewN | apply Kd.R_drew)); exact HO_7.out⟩, ⟨by (try simp only [hl7_3]); (try simp only [hl7_30]); (with_reducible repeat (first | apply Kd.R_alloc | apply Kd.R_drewN | apply Kd.R_drew)); exact HO_8.out⟩, ⟨by repeat (first | (with_reducible first | exact HB.out | apply below_alloc | apply pw_below_drewN | apply below_drew1) | exact HB.out)⟩⟩
                       ·rw [if_neg c56] at H
                        exact absurd H (by simp)
                      ·rw [if_neg c55] at H
                       exact absurd H (by simp)
                 ·rw [if_neg c29] at H
                  exact absurd H (by simp)
                ·rw [if_neg c28] at H
                 exact absurd H (by simp)
           ·rw [if_neg c17] at H
            exact absurd H (by simp)
          ·rw [if_neg c16] at H
           exact absurd H (by simp)
       ·rw [if_neg c13] at H
        have c13b0 : decide (x9_1 < (wrap64 (2 * (wrap64 ((l0.length : Int) / 2))))) = false := decide_eq_false c13
        (try simp only [hji3] at c13b0)
        (try simp only [hji6] at c13b0)
        (try simp only [hji25] at c13b0)
        (try simp only [hji48] at c13b0)
        (try simp only [hji54] at c13b0)
        clear c13
        have H' := Aside0.mk H
        clear H
        go_wp2
        go_loopg [11, 12] k1 (fun kq v11 v12 w' => ∃ (x7_2 : List Bool) (x11_2 : Int) (x12_2 : Int), v11 = .int .i64 x11_2 ∧ v12 = .int .i64 x12_2 ∧ Aside0 (pomaderef07_product.l2 kq l0 l1 (wrap64 ((l0.length : Int) / 2)) x7_2 x8_1 x11_2 x12_2 = some (r1, r2)) ∧ Aside0 (kq ≤ k1) ∧ Aside0 (Kd.R Kd.bool 4 w' w.heap.size (fun _ => True) v280 x7_2) ∧ Aside0 (Kd.R (Kd.int .i64) 3 w' w.heap.size (fun _ => True) v283 x8_1) ∧ Aside0 (Below w.heap.size w w'))
        case atStart => exact ⟨(x7_1), (0), ((wrap64 ((l0.length : Int) / 2))), (by first | rfl | (simp; done) | (simp [*]; done)), (by first | rfl | (simp; done) | (simp [*]; done)), H', ⟨Nat.le_refl _⟩, ⟨by (with_reducible repeat (first | apply Kd.R_alloc | apply Kd.R_drewN | apply Kd.R_drew)); exact HO_7.out⟩, ⟨by (with_reducible repeat (first | apply Kd.R_alloc | apply Kd.R_drewN | apply Kd.R_drew)); exact HO_8.out⟩, ⟨by repeat (first | (with_reducible first | exact HB.out | apply below_alloc | apply pw_below_drewN | apply below_drew1) | exact HB.out)⟩⟩
        case round =>
         clear H'
         try clear c1
         try clear p1
         try clear q1
         try clear hx1
         try clear c2
         try clear p2
         try clear q2
         try clear hx2
         try clear c3
         try clear p3
         try clear q3
         try clear hx3
         try clear hf3
         try clear c4
         try clear c4b0
         try clear c4b1
         try clear p4
         try clear q4
         try clear hx4
         try clear hf4
         try clear c5
         try clear c5b0
         try clear c5b1
         try clear p5
         try clear q5
         try clear hx5
         try clear hf5
         try clear p6
         try clear c7
         try clear c7b0
         try clear c7b1
         try clear c8
         try clear c8b0
         try clear c8b1
         try clear c13
         try clear c13b0
         try clear c15
         try clear c15b0
         try clear c16
         try clear c16b0
         try clear c17
         try clear c17b0
         try clear p18
         try clear q18
         try clear hx18
         try clear hf18
         try clear c22
         try clear c22b0
         try clear c23
         try clear c23b0
         try clear c24
         try clear c24b0
         try clear c26
         try clear c26b0
         try clear c27
         try clear c27b0
         try clear c28
         try clear c28b0
         try clear p28
         try clear q28
         try clear hx28
         try clear c29
         try clear c29b0
         try clear p30
         try clear q30
         try clear hx30
         try clear hf30
         try clear c34
         try clear c34b0
         try clear c35
         try clear c36
         try clear c36b0
         try clear c37
         try clear c37b0
         try clear c38
         try clear c38b0
         try clear p39
         try clear q39
         try clear hx39
         try clear hf39
         try clear c42
         try clear c42b0
         try clear c43
         try clear c43b0
         try clear p44
         try clear q44
         try clear hx44
         try clear hf44
         try clear c47
         try clear c47b0
         try clear c49
         try clear c49b0
         try clear c50
         try clear c50b0
         try clear p51
         try clear q51
         try clear hx51
         try clear hf51
         try clear c55
         try clear c55b0
         try clear c56
         try clear c56b0
         try clear p57
         try clear q57
         try clear hx57
         try clear hf57
         try clear hx18_0
         try clear hx286_0
         try clear hx287_0
         try clear hx30_0
         try clear hx39_0
         try clear hx44_0
         try clear hx51_0
         try clear hx57_0
         try clear p1
         try clear p18
         try clear p2
         try clear p28
         try clear p286
         try clear p287
         try clear p3
         try clear p30
         try clear p39
         try clear p44
         try clear p51
         try clear p57
         try clear p6
         try clear q1
         try clear q18
         try clear q2
         try clear q28
         try clear q286
         try clear q287
         try clear q3
         try clear q30
         try clear q39
         try clear q44
         try clear q51
         try clear q57
         obtain ⟨x7_2, x11_2, x12_2, rfl, rfl, HA, HK2, HO_7, HO_8, HB⟩ := hrel
         cases gk with
         | zero => exact absurd HA.out (by simp [pomaderef07_product.l2])
         | succ k2 =>
          have H := HA.out
          clear HA
          simp only [pomaderef07_product.l2] at H
          by_cases c60 : x12_2 < (wrap64 (2 * (wrap64 ((l0.length : Int) / 2))))
          ·rw [if_pos c60] at H
           have c60b0 : decide (x12_2 < (wrap64 (2 * (wrap64 ((l0.length : Int) / 2))))) = true := decide_eq_true c60
           (try simp only [hji3] at c60b0)
           (try simp only [hji6] at c60b0)
           (try simp only [hji25] at c60b0)
           (try simp only [hji48] at c60b0)
           (try simp only [hji54] at c60b0)
           clear c60
           by_cases c61 : 0 ≤ x12_2
           ·rw [if_pos c61] at H
            have c61b0 : decide (0 ≤ x12_2) = true := decide_eq_true c61
            clear c61
            by_cases c62 : x12_2 < (x7_2.length : Int)
            ·rw [if_pos c62] at H
             have c62b0 : decide (x12_2 < (x7_2.length : Int)) = true := decide_eq_true c62
             clear c62
             obtain ⟨bq63, hbq63⟩ : ∃ b_ : Bool, b_ = (rdOf false x7_2 x12_2) := ⟨_, rfl⟩
             replace H : (if bq63 = true then (pomaderef07_product.l2 k2 l0 l1 (wrap64 ((l0.length : Int) / 2)) x7_2 x8_1 x11_2 (wrap64 (x12_2 + 1))) else (pomaderef07_product.l3 k2 l0 l1 (wrap64 ((l0.length : Int) / 2)) x7_2 x8_1 (wrap64 (x11_2 + 1)) x12_2 x12_2)) = some (r1, r2) := by rw [← hbq63] at H; exact H
             have Nbq63 := Aside0.mk hbq63
             clear hbq63
             by_cases c64 : bq63 = true
             ·subst c64
              have H1 : (pomaderef07_product.l2 k2 l0 l1 (wrap64 ((l0.length : Int) / 2)) x7_2 x8_1 x11_2 (wrap64 (x12_2 + 1))) = some (r1, r2) := by rw [if_pos rfl] at H; exact H
              clear H
              have H := H1
              clear H1
              have H' := Aside0.mk H
              clear H
              obtain ⟨Ao65, co65, eo65⟩ := Kd.R_slice HO_7.out
              subst eo65
              have p293 : 0 ≤ (x12_2 : Int) := of_decide_eq_true (by first | (with_reducible assumption) | assumption)
              have q293 : x12_2 < (x7_2.length : Int) := of_decide_eq_true (by first | (with_reducible assumption) | assumption)
              obtain ⟨ad293, e293, hx293_0⟩ := Kd.at_bool (Kd.R_reads' HO_7.out).2.2 x12_2 p293 q293
              (try rw [← Nbq63.out] at hx293_0)
              cases e293
              replace p293 := eq_true p293
              replace q293 := eq_true q293
              go_wp2
              go_roundg k2
              case measure => have := HK1.out; have := HK2.out; omega
              case rel => exact ⟨(x7_2), (x11_2), (wrap64 (x12_2 + 1)), (by first | rfl | (simp; done) | (simp [*]; done)), (by first | rfl | (simp; done) | (simp [*]; done)), H', ⟨by have := HK1.out; have := HK2.out; omega⟩, ⟨by (with_reducible repeat (first | apply Kd.R_alloc | apply Kd.R_drewN | apply Kd.R_drew)); exact HO_7.out⟩, ⟨by (with_reducible repeat (first | apply Kd.R_alloc | apply Kd.R_drewN | apply Kd.R_drew)); exact HO_8.out⟩, ⟨by repeat (first | (with_reducible first | exact HB.out | apply below_alloc | apply pw_below_drewN | apply below_drew1) | exact HB.out)⟩⟩
             ·replace c64 := Bool.eq_false_iff.mpr c64
              subst c64
              have H1 : (pomaderef07_product.l3 k2 l0 l1 (wrap64 ((l0.length : Int) / 2)) x7_2 x8_1 (wrap64 (x11_2 + 1)) x12_2 x12_2) = some (r1, r2) := by rw [if_neg (show ¬ (false = true) by decide)] at H; exact H
              clear H
              have H := H1
              clear H1
              have H' := Aside0.mk H
              clear H
              obtain ⟨Ao66, co66, eo66⟩ := Kd.R_slice HO_7.out
              subst eo66
              have p293 : 0 ≤ (x12_2 : Int) := of_decide_eq_true (by first | (with_reducible assumption) | assumption)
              have q293 : x12_2 < (x7_2.length : Int) := of_decide_eq_true (by first | (with_reducible assumption) | assumption)
              obtain ⟨ad293, e293, hx293_0⟩ := Kd.at_bool (Kd.R_reads' HO_7.out).2.2 x12_2 p293 q293
              (try rw [← Nbq63.out] at hx293_0)
              cases e293
              replace p293 := eq_true p293
              replace q293 := eq_true q293
              go_wp2
              go_loopg [13] k2 (fun kq v13 w' => ∃ (x7_3 : List Bool) (x13_3 : Int), v13 = .int .i64 x13_3 ∧ Aside0 (pomaderef07_product.l3 kq l0 l1 (wrap64 ((l0.length : Int) / 2)) x7_3 x8_1 (wrap64 (x11_2 + 1)) x12_2 x13_3 = some (r1, r2)) ∧ Aside0 (kq ≤ k2) ∧ Aside0 (Kd.R Kd.bool 4 w' w.heap.size (fun _ => True) (.slice (some ad293) x7_2.length co66) x7_3) ∧ Aside0 (Kd.R (Kd.int .i64) 3 w' w.heap.size (fun _ => True) v283 x8_1) ∧ Aside0 (Below w.heap.size w w'))
              case atStart => exact ⟨(x7_2), (x12_2), (by first | rfl | (simp; done) | (simp [*]; done)), H', ⟨Nat.le_refl _⟩, ⟨by (with_reducible repeat (first | apply Kd.R_alloc | apply Kd.R_drewN | apply Kd.R_drew)); exact HO_7.out⟩, ⟨by (with_reducible repeat (first | apply Kd.R_alloc | apply Kd.R_drewN | apply Kd.R_drew)); exact HO_8.out⟩, ⟨by repeat (first | (with_reducible first | exact HB.out | apply below_alloc | apply pw_below_drewN | apply below_drew1) | exact HB.out)⟩⟩
              case round =>
               clear H'
               try clear c1
               try clear p1
               try clear q1
               try clear hx1
               try clear c2
               try clear p2
               try clear q2
               try clear hx2
               try clear c3
               try clear p3
               try clear q3
               try clear hx3
               try clear hf3
               try clear c4
               try clear c4b0
               try clear c4b1
               try clear p4
               try clear q4
               try clear hx4
               try clear hf4
               try clear c5
               try clear c5b0
               try clear c5b1
               try clear p5
               try clear q5
               try clear hx5
               try clear hf5
               try clear c6
               try clear p6
               try clear q6
               try clear c7
               try clear c7b0
               try clear c7b1
               try clear c8
               try clear c8b0
               try clear c8b1
               try clear c13
               try clear c13b0
               try clear c15
               try clear c15b0
               try clear c16
               try clear c16b0
               try clear c17
               try clear c17b0
               try clear p18
               try clear q18
               try clear hx18
               try clear hf18
               try clear c22
               try clear c22b0
               try clear c23
               try clear c23b0
               try clear c24
               try clear c24b0
               try clear c26
               try clear c26b0
               try clear c27
               try clear c27b0
               try clear c28
               try clear c28b0
               try clear p28
               try clear q28
               try clear hx28
               try clear c29
               try clear c29b0
               try clear p29
               try clear q29
               try clear hx29
               try clear p30
               try clear q30
               try clear hx30
               try clear hf30
               try clear c34
               try clear c34b0
               try clear c35
               try clear c36
               try clear c36b0
               try clear c37
               try clear c37b0
               try clear c38
               try clear c38b0
               try clear p39
               try clear q39
               try clear hx39
               try clear hf39
               try clear c42
               try clear c42b0
               try clear c43
               try clear c43b0
               try clear p44
               try clear q44
               try clear hx44
               try clear hf44
               try clear c47
               try clear c47b0
               try clear c49
               try clear c49b0
               try clear c50
               try clear c50b0
               try clear p51
               try clear q51
               try clear hx51
               try clear hf51
               try clear c55
               try clear c55b0
               try clear c56
               try clear c56b0
               try clear p57
               try clear q57
               try clear hx57
               try clear hf57
               try clear c60
               try clear c60b0
               try clear c61
               try clear c61b0
               try clear c62
               try clear c62b0
               try clear q63
               try clear c64
               try clear p64
               try clear hx18_0
               try clear hx286_0
               try clear hx287_0
               try clear hx293_0
               try clear hx30_0
               try clear hx39_0
               try clear hx44_0
               try clear hx51_0
               try clear hx57_0
               try clear p1
               try clear p18
               try clear p2
               try clear p28
               try clear p286
               try clear p287
               try clear p293
               try clear p3
               try clear p30
               try clear p39
               try clear p4
               try clear p44
               try clear p5
               try clear p51
               try clear p57
               try clear p6
               try clear q1
               try clear q18
               try clear q2
               try clear q28
               try clear q286
               try clear q287
               try clear q293
               try clear q3
               try clear q30
               try clear q39
               try clear q4
               try clear q44
               try clear q5
               try clear q51
               try clear q57
               obtain ⟨x7_3, x13_3, rfl, HA, HK3, HO_7, HO_8, HB⟩ := hrel
               have hl7_3 := (Kd.R_reads' HO_7.out).1
               rw [hl7_3] at HO_7
               (try simp only [hl7_3])
               (try simp only [hl7_3] at HO_8)
               cases gk with
               | zero => exact absurd HA.out (by simp [pomaderef07_product.l3])
               | succ k3 =>
                have H := HA.out
                clear HA
                simp only [pomaderef07_product.l3] at H
                by_cases c67 : 0 ≤ x13_3
                ·rw [if_pos c67] at H
                 have c67b0 : decide (0 ≤ x13_3) = true := decide_eq_true c67
                 clear c67
                 by_cases c68 : x13_3 < (x7_3.length : Int)
                 ·rw [if_pos c68] at H
                  have c68b0 : decide (x13_3 < (x7_3.length : Int)) = true := decide_eq_true c68
                  clear c68
                  obtain ⟨bq69, hbq69⟩ : ∃ b_ : Bool, b_ = (rdOf false x7_3 x13_3) := ⟨_, rfl⟩
                  replace H : (if bq69 = true then (pomaderef07_product.l2 k3 l0 l1 (wrap64 ((l0.length : Int) / 2)) x7_3 x8_1 (wrap64 (x11_2 + 1)) (wrap64 (x12_2 + 1))) else (if x13_3 < (l0.length : Int) then (if 0 ≤ (rd l0 x13_3) then (if (rd l0 x13_3) < (x7_3.length : Int) then (if 0 ≤ (wrap64 ((rd l0 x13_3) - (wrap64 ((l0.length : Int) / 2)))) then (if (wrap64 ((rd l0 x13_3) - (wrap64 ((l0.length : Int) / 2)))) < (l1.length : Int) then (if 0 ≤ (wrap64 ((wrap64 (2 * (wrap64 ((l0.length : Int) / 2)))) + (rd l1 (wrap64 ((rd l0 x13_3) - (wrap64 ((l0.length : Int) / 2))))))) then (if (wrap64 ((wrap64 (2 * (wrap64 ((l0.length : Int) / 2)))) + (rd l1 (wrap64 ((rd l0 x13_3) - (wrap64 ((l0.length : Int) / 2))))))) < (x7_3.length : Int) then (pomaderef07_product.l3 k3 l0 l1 (wrap64 ((l0.length : Int) / 2)) (((x7_3.set (x13_3 : Int).toNat true).set ((rd l0 x13_3) : Int).toNat true).set ((wrap64 ((wrap64 (2 * (wrap64 ((l0.length : Int) / 2)))) + (rd l1 (wrap64 ((rd l0 x13_3) - (wrap64 ((l0.length : Int) / 2))))))) : Int).toNat true) x8_1 (wrap64 (x11_2 + 1)) x12_2 (wrap64 ((wrap64 ((wrap64 (2 * (wrap64 ((l0.length : Int) / 2)))) + (rd l1 (wrap64 ((rd l0 x13_3) - (wrap64 ((l0.length : Int) / 2))))))) - (wrap64 ((l0.length : Int) / 2))))) else (none)) else (none)) else (none)) else (none)) else (none)) else (none)) else (none))) = some (r1, r2) := by rw [← hbq69] at H; exact H
                  have Nbq69 := Aside0.mk hbq69
                  clear hbq69
                  by_cases c70 : bq69 = true
                  ·subst c70
                   have H1 : (pomaderef07_product.l2 k3 l0 l1 (wrap64 ((l0.length : Int) / 2)) x7_3 x8_1 (wrap64 (x11_2 + 1)) (wrap64 (x12_2 + 1))) = some (r1, r2) := by rw [if_pos rfl] at H; exact H
                   clear H
                   have H := H1
                   clear H1
                   have H' := Aside0.mk H
                   clear H
                   have p294 : 0 ≤ (x13_3 : Int) := of_decide_eq_true (by first | (with_reducible assumption) | assumption)
                   have q294 : x13_3 < (x7_3.length : Int) := of_decide_eq_true (by first | (with_reducible assumption) | assumption)
                   obtain ⟨ad294, e294, hx294_0⟩ := Kd.at_bool (Kd.R_reads' HO_7.out).2.2 x13_3 p294 q294
                   (try rw [← Nbq63.out] at hx294_0)
                   (try rw [← Nbq69.out] at hx294_0)
                   obtain rfl : ad293 = ad294 := (by injection e294)
                   replace p294 := eq_true p294
                   replace q294 := eq_true q294
                   go_wp2
                   (try simp only [← hl7_3])
                   go_roundg k3
                   case measure => have := HK1.out; have := HK2.out; have := HK3.out; omega
                   case rel => exact ⟨(x7_3), ((wrap64 (x11_2 + 1))), (wrap64 (x12_2 + 1)), (by first | rfl | (simp; done) | (simp [*]; done)), (by first | rfl | (simp; done) | (simp [*]; done)), H', ⟨by have := HK1.out; have := HK2.out; have := HK3.out; omega⟩, ⟨by (try simp only [hl7_3]); (with_reducible repeat (first | apply Kd.R_alloc | apply Kd.R_drewN | apply Kd.R_drew)); exact HO_7.out⟩, ⟨by (try simp only [hl7_3]); (with_reducible repeat (first | apply Kd.R_alloc | apply Kd.R_drewN | apply Kd.R_drew)); exact HO_8.out⟩, ⟨by repeat (first | (with_reducible first | exact HB.out | apply below_alloc | apply pw_below_drewN | apply below_drew1) | exact HB.out)⟩⟩
                  ·replace c70 := Bool.eq_false_iff.mpr c70
                   subst c70
                   have H1 : (if x13_3 < (l0.length : Int) then (if 0 ≤ (rd l0 x13_3) then (if (rd l0 x13_3) < (x7_3.length : Int) then (if 0 ≤ (wrap64 ((rd l0 x13_3) - (wrap64 ((l0.length : Int) / 2)))) then (if (wrap64 ((rd l0 x13_3) - (wrap64 ((l0.length : Int) / 2)))) < (l1.length : Int) then (if 0 ≤ (wrap64 ((wrap64 (2 * (wrap64 ((l0.length : Int) / 2)))) + (rd l1 (wrap64 ((rd l0 x13_3) - (wrap64 ((l0.length : Int) / 2))))))) then (if (wrap64 ((wrap64 (2 * (wrap64 ((l0.length : Int) / 2)))) + (rd l1 (wrap64 ((rd l0 x13_3) - (wrap64 ((l0.length : Int) / 2))))))) < (x7_3.length : Int) then (pomaderef07_product.l3 k3 l0 l1 (wrap64 ((l0.length : Int) / 2)) (((x7_3.set (x13_3 : Int).toNat true).set ((rd l0 x13_3) : Int).toNat true).set ((wrap64 ((wrap64 (2 * (wrap64 ((l0.length : Int) / 2)))) + (rd l1 (wrap64 ((rd l0 x13_3) - (wrap64 ((l0.length : Int) / 2))))))) : Int).toNat true) x8_1 (wrap64 (x11_2 + 1)) x12_2 (wrap64 ((wrap64 ((wrap64 (2 * (wrap64 ((l0.length : Int) / 2)))) + (rd l1 (wrap64 ((rd l0 x13_3) - (wrap64 ((l0.length : Int) / 2))))))) - (wrap64 ((l0.length : Int) / 2))))) else (none)) else (none)) else (none)) else (none)) else (none)) else (none)) else (none)) = some (r1, r2) := by rw [if_neg (show ¬ (false = true) by decide)] at H; exact H
                   clear H
                   have H := H1
                   clear H1
                   obtain ⟨y295, hy295⟩ : ∃ y_ : List Bool, y_ = (x7_3.set (x13_3 : Int).toNat true) := ⟨_, rfl⟩
                   replace H : (if x13_3 < (l0.length : Int) then (if 0 ≤ (rd l0 x13_3) then (if (rd l0 x13_3) < (x7_3.length : Int) then (if 0 ≤ (wrap64 ((rd l0 x13_3) - (wrap64 ((l0.length : Int) / 2)))) then (if (wrap64 ((rd l0 x13_3) - (wrap64 ((l0.length : Int) / 2)))) < (l1.length : Int) then (if 0 ≤ (wrap64 ((wrap64 (2 * (wrap64 ((l0.length : Int) / 2)))) + (rd l1 (wrap64 ((rd l0 x13_3) - (wrap64 ((l0.length : Int) / 2))))))) then (if (wrap64 ((wrap64 (2 * (wrap64 ((l0.length : Int) / 2)))) + (rd l1 (wrap64 ((rd l0 x13_3) - (wrap64 ((l0.length : Int) / 2))))))) < (x7_3.length : Int) then (pomaderef07_product.l3 k3 l0 l1 (wrap64 ((l0.length : Int) / 2)) ((y295.set ((rd l0 x13_3) : Int).toNat true).set ((wrap64 ((wrap64 (2 * (wrap64 ((l0.length : Int) / 2)))) + (rd l1 (wrap64 ((rd l0 x13_3) - (wrap64 ((l0.length : Int) / 2))))))) : Int).toNat true) x8_1 (wrap64 (x11_2 + 1)) x12_2 (wrap64 ((wrap64 ((wrap64 (2 * (wrap64 ((l0.length : Int) / 2)))) + (rd l1 (wrap64 ((rd l0 x13_3) - (wrap64 ((l0.length : Int) / 2))))))) - (wrap64 ((l0.length : Int) / 2))))) else (none)) else (none)) else (none)) else (none)) else (none)) else (none)) else (none)) = some (r1, r2) := by first | (rw [hy295]; with_reducible exact H) | (have H2_ := (Option.bind_some _ _).symm.trans H; rw [hy295]; with_reducible exact H2_) | (have H2_ := (Option.bind_some _ _).symm.trans H; with_reducible exact H2_) | with_reducible exact H | (rw [hy295]; exact H) | exact H
                   have Ny295 := Aside0.mk hy295
                   clear hy295
                   by_cases c72 : x13_3 < (l0.length : Int)
                   ·rw [if_pos c72] at H
                    have c72b0 : decide (x13_3 < (l0.length : Int)) = true := decide_eq_true c72
                    clear c72
                    by_cases c73 : 0 ≤ (rd l0 x13_3)
                    ·rw [if_pos c73] at H
                     have c73b0 : decide (0 ≤ (rd l0 x13_3)) = true := decide_eq_true c73
                     clear c73
                     by_cases c74 : (rd l0 x13_3) < (x7_3.length : Int)
                     ·rw [if_pos c74] at H
                      have c74b0 : decide ((rd l0 x13_3) < (x7_3.length : Int)) = true := decide_eq_true c74
                      clear c74
                      obtain ⟨y297, hy297⟩ : ∃ y_ : List Bool, y_ = (y295.set ((rd l0 x13_3) : Int).toNat true) := ⟨_, rfl⟩
                      replace H : (if 0 ≤ (wrap64 ((rd l0 x13_3) - (wrap64 ((l0.length : Int) / 2)))) then (if (wrap64 ((rd l0 x13_3) - (wrap64 ((l0.length : Int) / 2)))) < (l1.length : Int) then (if 0 ≤ (wrap64 ((wrap64 (2 * (wrap64 ((l0.length : Int) / 2)))) + (rd l1 (wrap64 ((rd l0 x13_3) - (wrap64 ((l0.length : Int) / 2))))))) then (if (wrap64 ((wrap64 (2 * (wrap64 ((l0.length : Int) / 2)))) + (rd l1 (wrap64 ((rd l0 x13_3) - (wrap64 ((l0.length : Int) / 2))))))) < (x7_3.length : Int) then (pomaderef07_product.l3 k3 l0 l1 (wrap64 ((l0.length : Int) / 2)) (y297.set ((wrap64 ((wrap64 (2 * (wrap64 ((l0.length : Int) / 2)))) + (rd l1 (wrap64 ((rd l0 x13_3) - (wrap64 ((l0.length : Int) / 2))))))) : Int).toNat true) x8_1 (wrap64 (x11_2 + 1)) x12_2 (wrap64 ((wrap64 ((wrap64 (2 * (wrap64 ((l0.length : Int) / 2)))) + (rd l1 (wrap64 ((rd l0 x13_3) - (wrap64 ((l0.length : Int) / 2))))))) - (wrap64 ((l0.length : Int) / 2))))) else (none)) else (none)) else (none)) else (none)) = some (r1, r2) := by first | (rw [hy297]; with_reducible exact H) | (have H2_ := (Option.bind_some _ _).symm.trans H; rw [hy297]; with_reducible exact H2_) | (have H2_ := (Option.bind_some _ _).symm.trans H; with_reducible exact H2_) | with_reducible exact H | (rw [hy297]; exact H) | exact H
                      have Ny297 := Aside0.mk hy297
                      clear hy297
                      obtain ⟨ji76, hji76⟩ : ∃ j_ : Int, (wrap64 ((rd l0 x13_3) - (wrap64 ((l0.length : Int) / 2)))) = j_ := ⟨_, rfl⟩
                      replace H : (if 0 ≤ (ji76) then (if (ji76) < (l1.length : Int) then (if 0 ≤ (wrap64 ((wrap64 (2 * (wrap64 ((l0.length : Int) / 2)))) + (rd l1 (ji76)))) then (if (wrap64 ((wrap64 (2 * (wrap64 ((l0.length : Int) / 2)))) + (rd l1 (ji76)))) < (x7_3.length : Int) then (pomaderef07_product.l3 k3 l0 l1 (wrap64 ((l0.length : Int) / 2)) (y297.set ((wrap64 ((wrap64 (2 * (wrap64 ((l0.length : Int) / 2)))) + (rd l1 (ji76)))) : Int).toNat true) x8_1 (wrap64 (x11_2 + 1)) x12_2 (wrap64 ((wrap64 ((wrap64 (2 * (wrap64 ((l0.length : Int) / 2)))) + (rd l1 (ji76)))) - (wrap64 ((l0.length : Int) / 2))))) else (none)) else (none)) else (none)) else (none)) = some (r1, r2) := by first | (rw [hji76] at H; exact H) | (simp only [hji76] at H ⊢; exact H)
                      have hji76w : (IntKind.i64.wrap ((rd l0 x13_3) - (wrap64 ((l0.length : Int) / 2)))) = ji76 := (i64_w _).trans hji76
                      (try simp only [hji3] at hji76)
                      (try simp only [hji3] at hji76w)
                      (try simp only [hji6] at hji76)
                      (try simp only [hji6] at hji76w)
                      (try simp only [hji25] at hji76)
                      (try simp only [hji25] at hji76w)
                      (try simp only [hji48] at hji76)
                      (try simp only [hji48] at hji76w)
                      (try simp only [hji54] at hji76)
                      (try simp only [hji54] at hji76w)
                      by_cases c77 : 0 ≤ (ji76)
                      ·rw [if_pos c77] at H
                       have c77b0 : decide (0 ≤ (ji76)) = true := decide_eq_true c77
                       clear c77
                       by_cases c78 : (ji76) < (l1.length : Int)
                       ·rw [if_pos c78] at H
                        have c78b0 : decide ((ji76) < (l1.length : Int)) = true := decide_eq_true c78
                        clear c78
                        obtain ⟨ji79, hji79⟩ : ∃ j_ : Int, (wrap64 ((wrap64 (2 * (wrap64 ((l0.length : Int) / 2)))) + (rd l1 (ji76)))) = j_ := ⟨_, rfl⟩
                        replace H : (if 0 ≤ (ji79) then (if (ji79) < (x7_3.length : Int) then (pomaderef07_product.l3 k3 l0 l1 (wrap64 ((l0.length : Int) / 2)) (y297.set ((ji79) : Int).toNat true) x8_1 (wrap64 (x11_2 + 1)) x12_2 (wrap64 ((ji79) - (wrap64 ((l0.length : Int) / 2))))) else (none)) else (none)) = some (r1, r2) := by first | (rw [hji79] at H; exact H) | (simp only [hji79] at H ⊢; exact H)
                        have hji79w : (IntKind.i64.wrap ((wrap64 (2 * (wrap64 ((l0.length : Int) / 2)))) + (rd l1 (ji76)))) = ji79 := (i64_w _).trans hji79
                        (try simp only [hji3] at hji79)
                        (try simp only [hji3] at hji79w)
                        (try simp only [hji6] at hji79)
                        (try simp only [hji6] at hji79w)
                        (try simp only [hji25] at hji79)
                        (try simp only [hji25] at hji79w)
                        (try simp only [hji48] at hji79)
                        (try simp only [hji48] at hji79w)
                        (try simp only [hji54] at hji79)
                        (try simp only [hji54] at hji79w)
                        (try simp only [hji76] at hji79)
                        (try simp only [hji76] at hji79w)
                        by_cases c80 : 0 ≤ (ji79)
                        ·rw [if_pos c80] at H
                         have c80b0 : decide (0 ≤ (ji79)) = true := decide_eq_true c80
                         clear c80
                         by_cases c81 : (ji79) < (x7_3.length : Int)
                         ·rw [if_pos c81] at H
                          have c81b0 : decide ((ji79) < (x7_3.length : Int)) = true := decide_eq_true c81
                          clear c81
                          obtain ⟨y299, hy299⟩ : ∃ y_ : List Bool, y_ = (y297.set ((ji79) : Int).toNat true) := ⟨_, rfl⟩
                          replace H : (pomaderef07_product.l3 k3 l0 l1 (wrap64 ((l0.length : Int) / 2)) y299 x8_1 (wrap64 (x11_2 + 1)) x12_2 (wrap64 ((ji79) - (wrap64 ((l0.length : Int) / 2))))) = some (r1, r2) := by first | (rw [hy299]; with_reducible exact H) | (have H2_ := (Option.bind_some _ _).symm.trans H; rw [hy299]; with_reducible exact H2_) | (have H2_ := (Option.bind_some _ _).symm.trans H; with_reducible exact H2_) | with_reducible exact H | (rw [hy299]; exact H) | exact H
                          have Ny299 := Aside0.mk hy299
                          clear hy299
                          have H' := Aside0.mk H
                          clear H
                          have p294 : 0 ≤ (x13_3 : Int) := of_decide_eq_true (by first | (with_reducible assumption) | assumption)
                          have q294 : x13_3 < (x7_3.length : Int) := of_decide_eq_true (by first | (with_reducible assumption) | assumption)
                          obtain ⟨ad294, e294, hx294_0⟩ := Kd.at_bool (Kd.R_reads' HO_7.out).2.2 x13_3 p294 q294
                          (try rw [← Nbq63.out] at hx294_0)
                          (try rw [← Nbq69.out] at hx294_0)
                          obtain rfl : ad293 = ad294 := (by injection e294)
                          replace p294 := eq_true p294
                          replace q294 := eq_true q294
                          have p71 : 0 ≤ (x13_3 : Int) := of_decide_eq_true (by first | (with_reducible assumption) | assumption)
                          have q71 : (x13_3 : Int) < ((x7_3.length : Int) : Int) := of_decide_eq_true (by first | (with_reducible assumption) | assumption)
                          obtain ⟨go71, co71, eo71, gb71, gl71, cl71, HG71⟩ := Kd.R_form HO_7.out (by omega)
                          (first | cases eo71 | (injection eo71 with ea_ en_ ec_; (first | subst ea_ | (injection ea_ with ea_; subst ea_)); subst ec_; clear en_))
                          (try simp only [add_plain] at *)
                          have GB71 := Aside0.mk gb71
                          have GG71 := Aside0.mk HG71
                          clear gb71 gl71 HG71
                          (first | simp only [add_plain] at hx293_0 | skip)
                          (first | simp only [add_plain] at hx294_0 | skip)
                          obtain ⟨hx71_0, hf71_0⟩ := Kd.R_celln false HO_7.out (x13_3 : Int) p71 q71
                          replace p71 := eq_true p71
                          replace q71 := eq_true q71
                          have HP83 := Kd.R_putg HO_7.out (x13_3 : Int) true
                          go_wp2_with (first | ((with_reducible refine gate_store (t := 4) (p := 116) rfl ?_); refine store_event (t := 4) (p := 116) (v := ?vo_w84) (w1 := (wr.setCell ⟨go71, (x13_3 : Int).toNat, none⟩ (.bool true))) ?hg ?ho ?hn ?hr ?_; (case ho => rfl); (case hg => rfl); (case hn => rfl); (case hr => first | (go_simp; done) | (go_simp; rfl)); intro w84 hw; have hg : wr.grownBy w84 (some go71) := (by rw [hw]; exact HP83.2); have hp_ : Kd.R Kd.bool 4 w84 w.heap.size (fun _ => True) (.slice (some ⟨go71, 0, none⟩) x7_3.length co66) y295 := (by rw [hw, Ny295.out]; exact HP83.1); clear HP83; have n0_ := Aside0.mk (hp_); have n1_ := Aside0.mk (Kd.R_over' (v := (.slice (some ⟨go71, 0, none⟩) x7_3.length co66)) (by (with_reducible repeat (first | apply Kd.R_alloc | apply Kd.R_drewN | apply Kd.R_drew)); exact HO_8.out) (Kd.R_typed HO_7.out) (by decide) hg); have n2_ := Aside0.mk ((by rw [hw]; exact below_set (HB.out) GB71.out : Below w.heap.size w w84)); clear HO_7; clear HO_8; clear HB; have HO_7 := n0_; have HO_8 := n1_; have HB := n2_; clear n0_ n1_ n2_; clear hg hw hp_; have p296 : 0 ≤ (x13_3 : Int) := of_decide_eq_true (by first | (with_reducible assumption) | assumption); have q296 : x13_3 < (l0.length : Int) := of_decide_eq_true (by first | (with_reducible assumption) | assumption); obtain ⟨ad296, e296, hx296_0⟩ := Kd.at_int HR0.out x13_3 p296 q296; cases e296; replace hx296_0 := (HB.out.cell (World.block_lt_of_cell? w _ hx296_0)).trans hx296_0; replace p296 := eq_true p296; replace q296 := eq_true q296; have p75 : 0 ≤ ((rd l0 x13_3) : Int) := of_decide_eq_true (by first | (with_reducible assumption) | assumption); have q75 : ((rd l0 x13_3) : Int) < ((x7_3.length : Int) : Int) := of_decide_eq_true (by first | (with_reducible assumption) | assumption); obtain ⟨hx75_0, hf75_0⟩ := Kd.R_celln false HO_7.out ((rd l0 x13_3) : Int) p75 q75; replace p75 := eq_true p75; replace q75 := eq_true q75; obtain ⟨hy85_, hz85_⟩ := Kd.R_celln false HO_7.out ((rd l0 x13_3) : Int) (of_decide_eq_true (by first | (with_reducible assumption) | assumption)) (of_decide_eq_true (by first | (with_reducible assumption) | assumption)); have HP85 := Kd.R_putg HO_7.out ((rd l0 x13_3) : Int) true) | ((with_reducible refine gate_store (t := 4) (p := 123) rfl ?_); refine store_event (t := 4) (p := 123) (v := ?vo_w86) (w1 := (w84.setCell ⟨go71, ((rd l0 x13_3) : Int).toNat, none⟩ (.bool true))) ?hg ?ho ?hn ?hr ?_; (case ho => rfl); (case hg => rfl); (case hn => rfl); (case hr => first | (go_simp; done) | (go_simp; rfl)); intro w86 hw; have hg : w84.grownBy w86 (some go71) := (by rw [hw]; exact HP85.2); have hp_ : Kd.R Kd.bool 4 w86 w.heap.size (fun _ => True) (.slice (some ⟨go71, 0, none⟩) x7_3.length co66) y297 := (by rw [hw, Ny297.out]; exact HP85.1); clear HP85; have n0_ := Aside0.mk (hp_); have n1_ := Aside0.mk (Kd.R_over' (v := (.slice (some ⟨go71, 0, none⟩) x7_3.length co66)) (by (with_reducible repeat (first | apply Kd.R_alloc | apply Kd.R_drewN | apply Kd.R_drew)); exact HO_8.out) (Kd.R_typed HO_7.out) (by decide) hg); have n2_ := Aside0.mk ((by rw [hw]; exact below_set (HB.out) GB71.out : Below w.heap.size w w86)); clear HO_7; clear HO_8; clear HB; have HO_7 := n0_; have HO_8 := n1_; have HB := n2_; clear n0_ n1_ n2_; clear hg hw hp_; have p298 : 0 ≤ ((ji76) : Int) := of_decide_eq_true (by first | (with_reducible assumption) | assumption); have q298 : (ji76) < (l1.length : Int) := of_decide_eq_true (by first | (with_reducible assumption) | assumption); obtain ⟨ad298, e298, hx298_0⟩ := Kd.at_int HR1.out (ji76) p298 q298; cases e298; replace hx298_0 := (HB.out.cell (World.block_lt_of_cell? w _ hx298_0)).trans hx298_0; replace p298 := eq_true p298; replace q298 := eq_true q298; have p82 : 0 ≤ ((ji79) : Int) := of_decide_eq_true (by first | (with_reducible assumption) | assumption); have q82 : ((ji79) : Int) < ((x7_3.length : Int) : Int) := of_decide_eq_true (by first | (with_reducible assumption) | assumption); obtain ⟨hx82_0, hf82_0⟩ := Kd.R_celln false HO_7.out ((ji79) : Int) p82 q82; replace p82 := eq_true p82; replace q82 := eq_true q82; obtain ⟨hy87_, hz87_⟩ := Kd.R_celln false HO_7.out ((ji79) : Int) (of_decide_eq_true (by first | (with_reducible assumption) | assumption)) (of_decide_eq_true (by first | (with_reducible assumption) | assumption)); have HP87 := Kd.R_putg HO_7.out ((ji79) : Int) true) | ((with_reducible refine gate_store (t := 4) (p := 135) rfl ?_); refine store_event (t := 4) (p := 135) (v := ?vo_w88) (w1 := (w86.setCell ⟨go71, ((ji79) : Int).toNat, none⟩ (.bool true))) ?hg ?ho ?hn ?hr ?_; (case ho => rfl); (case hg => rfl); (case hn => rfl); (case hr => first | (go_simp; done) | (go_simp; rfl)); intro w88 hw; have hg : w86.grownBy w88 (some go71) := (by rw [hw]; exact HP87.2); have hp_ : Kd.R Kd.bool 4 w88 w.heap.size (fun _ => True) (.slice (some ⟨go71, 0, none⟩) x7_3.length co66) y299 := (by rw [hw, Ny299.out]; exact HP87.1); clear HP87; have n0_ := Aside0.mk (hp_); have n1_ := Aside0.mk (Kd.R_over' (v := (.slice (some ⟨go71, 0, none⟩) x7_3.length co66)) (by (with_reducible repeat (first | apply Kd.R_alloc | apply Kd.R_drewN | apply Kd.R_drew)); exact HO_8.out) (Kd.R_typed HO_7.out) (by decide) hg); have n2_ := Aside0.mk ((by rw [hw]; exact below_set (HB.out) GB71.out : Below w.heap.size w w88)); clear HO_7; clear HO_8; clear HB; have HO_7 := n0_; have HO_8 := n1_; have HB := n2_; clear n0_ n1_ n2_; clear hg hw hp_))
                          (try simp only [← hl7_3])
                          go_roundg k3
                          case measure => have := HK1.out; have := HK2.out; have := HK3.out; omega
                          case rel => exact ⟨(y299), (wrap64 ((ji79) - (wrap64 ((l0.length : Int) / 2)))), (by first | rfl | (simp; done) | (simp only [hji3, hji6]; done) | (simp only [← hji79] <;> (first | rfl | simp)) | (simp [*]; done)), H', ⟨by have := HK1.out; have := HK2.out; have := HK3.out; omega⟩, ⟨by (try simp only [hl7_3]); (with_reducible repeat (first | apply Kd.R_alloc | apply Kd.R_drewN | apply Kd.R_drew)); exact HO_7.out⟩, ⟨by (try simp only [hl7_3]); (with_reducible repeat (first | apply Kd.R_alloc | apply Kd.R_drewN | apply Kd.R_drew)); exact HO_8.out⟩, ⟨by repeat (first | (with_reducible first | exact HB.out | apply below_alloc | apply pw_below_drewN | apply below_drew1) | exact HB.out)⟩⟩
                         ·rw [if_neg c81] at H
                          exact absurd H (by simp)
                        ·rw [if_neg c80] at H
                         exact absurd H (by simp)
                       ·rw [if_neg c78] at H
                        exact absurd H (by simp)
                      ·rw [if_neg c77] at H
                       exact absurd H (by simp)
                     ·rw [if_neg c74] at H
                      exact absurd H (by simp)
                    ·rw [if_neg c73] at H
                     exact absurd H (by simp)
                   ·rw [if_neg c72] at H
                    exact absurd H (by simp)
                 ·rw [if_neg c68] at H
                  exact absurd H (by simp)
                ·rw [if_neg c67] at H
                 exact absurd H (by simp)
            ·rw [if_neg c62] at H
             exact absurd H (by simp)
           ·rw [if_neg c61] at H
            exact absurd H (by simp)
          ·rw [if_neg c60] at H
           have c60b0 : decide (x12_2 < (wrap64 (2 * (wrap64 ((l0.length : Int) / 2))))) = false := decide_eq_false c60
           (try simp only [hji3] at c60b0)
           (try simp only [hji6] at c60b0)
           (try simp only [hji25] at c60b0)
           (try simp only [hji48] at c60b0)
           (try simp only [hji54] at c60b0)
           (try simp only [hji76] at c60b0)
           (try simp only [hji79] at c60b0)
           clear c60
           simp only [Option.some.injEq, Prod.mk.injEq] at H
           obtain ⟨rfl, rfl⟩ := H
           go_wp2
           go_ret2
           exact ⟨_, by first | rfl | (simp [errW_none, errW_some] <;> rfl) | (simp only [← hji3, ← hji6]; first | rfl | (simp [errW_none, errW_some] <;> rfl)) | (simp [*, errW_none, errW_some] <;> rfl), by (with_reducible repeat (first | apply Kd.R_alloc | apply Kd.R_drewN | apply Kd.R_drew)); exact HO_8.out, by repeat (first | (with_reducible first | exact HB.out | apply below_alloc | apply pw_below_drewN | apply below_drew1) | exact HB.out)⟩
    ·rw [if_neg c8] at H
     exact absurd H (by simp)
   ·rw [if_neg c7] at H
    exact absurd H (by simp)
  ·rw [if_neg c5] at H
   exact absurd H (by simp)
 ·rw [if_neg c4] at H
  exact absurd H (by simp)
end Go.Proofs.Ytjfkompfkgjdaaa.PC
end
section
namespace Go.Proofs.Ytjfkompfkgjdaaa.PC
open Go.RowKit Go.Proofs.YtjfkompfkgjdaaaW.PrintWords Go.Proofs.YtjfkompfkgjdaaaW.PrintLast Go.Proofs.YtjfkompfkgjdaaaW.PrintMore
attribute [local go_sem] max2_int min2_int max_two min_two max_three min_three max_four min_four   -- for this text's walks alone
set_option linter.unusedVariables false
set_option linter.unusedSimpArgs false
/-! ### pomaderef07_Hook: function 52 -/
def pomaderef07_Hook.f (k : Nat) (a0 : Int) (a1 : Int) : Option (List Int) := (pomaderef07_Identity.f k a0).bind fun t357 => (if 0 ≤ a1 then (if a1 < (t357.length : Int) then (if 0 ≤ (wrap64 (a1 + 1)) then (if (wrap64 (a1 + 1)) < (t357.length : Int) then (if 0 ≤ (wrap64 (a0 + a1)) then (if (wrap64 (a0 + a1)) < (t357.length : Int) then (if 0 ≤ (wrap64 ((wrap64 (a0 + a1)) + 1)) then (if (wrap64 ((wrap64 (a0 + a1)) + 1)) < (t357.length : Int) then (some ((((t357.set (a1 : Int).toNat (wrap64 (a1 + 1))).set ((wrap64 (a1 + 1)) : Int).toNat a1).set ((wrap64 (a0 + a1)) : Int).toNat (wrap64 ((wrap64 (a0 + a1)) + 1))).set ((wrap64 ((wrap64 (a0 + a1)) + 1)) : Int).toNat (wrap64 (a0 + a1)))) else (none)) else (none)) else (none)) else (none)) else (none)) else (none)) else (none)) else (none))
theorem pomaderef07_Hook.mono : ∀ a0 a1 k, LeO (pomaderef07_Hook.f k a0 a1) (pomaderef07_Hook.f (k + 1) a0 a1) := by
 intro a0 a1 k
 unfold pomaderef07_Hook.f
 repeat' first
   | (with_reducible exact pomaderef07_Identity.mono _ _)
   | (with_reducible exact LeO.refl _)
   | (with_reducible exact LeO.none _)
   | (with_reducible refine LeO.ite ?_ ?_)
   | (with_reducible refine LeO.bind ?_ (fun _ => ?_))
   | exact pomaderef07_Identity.mono _ _
   | exact LeO.none _
   | refine LeO.ite ?_ ?_
   | refine LeO.bind ?_ (fun _ => ?_)
set_option maxHeartbeats 8000000 in
set_option maxRecDepth 100000 in
theorem pomaderef07_Hook.calls (k : Nat) (a0 : Int) (a1 : Int) (r : List Int) (w : World) (h : pomaderef07_Hook.f k a0 a1 = some r) :
  Calls Try.prog 52 #[.int .i64 a0, .int .i64 a1] w fun e w' => ∃ v0_ : Value, e = .returned (v0_) ∧ Kd.R (Kd.int .i64) 3 w' w.heap.size (fun _ => True) v0_ r ∧ Below w.heap.size w w' := by
 have HB := Aside0.mk (Below.refl w.heap.size w)
 have H : ((pomaderef07_Identity.f k a0).bind fun t357 => (if 0 ≤ a1 then (if a1 < (t357.length : Int) then (if 0 ≤ (wrap64 (a1 + 1)) then (if (wrap64 (a1 + 1)) < (t357.length : Int) then (if 0 ≤ (wrap64 (a0 + a1)) then (if (wrap64 (a0 + a1)) < (t357.length : Int) then (if 0 ≤ (wrap64 ((wrap64 (a0 + a1)) + 1)) then (if (wrap64 ((wrap64 (a0 + a1)) + 1)) < (t357.length : Int) then (some ((((t357.set (a1 : Int).toNat (wrap64 (a1 + 1))).set ((wrap64 (a1 + 1)) : Int).toNat a1).set ((wrap64 (a0 + a1)) : Int).toNat (wrap64 ((wrap64 (a0 + a1)) + 1))).set ((wrap64 ((wrap64 (a0 + a1)) + 1)) : Int).toNat (wrap64 (a0 + a1)))) else (none)) else (none)) else (none)) else (none)) else (none)) else (none)) else (none)) else (none))) = some r := h
 clear h
 replace H := Option.bind_eq_some_iff.mp H
 obtain ⟨t357, A30, H⟩ := H
 replace H : (if 0 ≤ a1 then (if a1 < (t357.length : Int) then (if 0 ≤ (wrap64 (a1 + 1)) then (if (wrap64 (a1 + 1)) < (t357.length : Int) then (if 0 ≤ (wrap64 (a0 + a1)) then (if (wrap64 (a0 + a1)) < (t357.length : Int) then (if 0 ≤ (wrap64 ((wrap64 (a0 + a1)) + 1)) then (if (wrap64 ((wrap64 (a0 + a1)) + 1)) < (t357.length : Int) then (some ((((t357.set (a1 : Int).toNat (wrap64 (a1 + 1))).set ((wrap64 (a1 + 1)) : Int).toNat a1).set ((wrap64 (a0 + a1)) : Int).toNat (wrap64 ((wrap64 (a0 + a1)) + 1))).set ((wrap64 ((wrap64 (a0 + a1)) + 1)) : Int).toNat (wrap64 (a0 + a1)))) else (none)) else (none)) else (none)) else (none)) else (none)) else (none)) else (none)) else (none)) = some r := H
 have A3 := Aside0.mk A30
 clear A30
 by_cases c4 : 0 ≤ a1
 ·rw [if_pos c4] at H
  have c4b0 : decide (0 ≤ a1) = true := decide_eq_true c4
  clear c4
  by_cases c5 : a1 < (t357.length : Int)
  ·rw [if_pos c5] at H
   have c5b0 : decide (a1 < (t357.length : Int)) = true := decide_eq_true c5
   clear c5
   obtain ⟨y360, hy360⟩ : ∃ y_ : List Int, y_ = (t357.set (a1 : Int).toNat (wrap64 (a1 + 1))) := ⟨_, rfl⟩
   replace H : (if 0 ≤ (wrap64 (a1 + 1)) then (if (wrap64 (a1 + 1)) < (t357.length : Int) then (if 0 ≤ (wrap64 (a0 + a1)) then (if (wrap64 (a0 + a1)) < (t357.length : Int) then (if 0 ≤ (wrap64 ((wrap64 (a0 + a1)) + 1)) then (if (wrap64 ((wrap64 (a0 + a1)) + 1)) < (t357.length : Int) then (some (((y360.set ((wrap64 (a1 + 1)) : Int).toNat a1).set ((wrap64 (a0 + a1)) : Int).toNat (wrap64 ((wrap64 (a0 + a1)) + 1))).set ((wrap64 ((wrap64 (a0 + a1)) + 1)) : Int).toNat (wrap64 (a0 + a1)))) else (none)) else (none)) else (none)) else (none)) else (none)) else (none)) = some r := by first | (rw [hy360]; with_reducible exact H) | (have H2_ := (Option.bind_some _ _).symm.trans H; rw [hy360]; with_reducible exact H2_) | (have H2_ := (Option.bind_some _ _).symm.trans H; with_reducible exact H2_) | with_reducible exact H | (rw [hy360]; exact H) | exact H
   have Ny360 := Aside0.mk hy360
   clear hy360
   obtain ⟨ji7, hji7⟩ : ∃ j_ : Int, (wrap64 (a1 + 1)) = j_ := ⟨_, rfl⟩
   replace H : (if 0 ≤ (ji7) then (if (ji7) < (t357.length : Int) then (if 0 ≤ (wrap64 (a0 + a1)) then (if (wrap64 (a0 + a1)) < (t357.length : Int) then (if 0 ≤ (wrap64 ((wrap64 (a0 + a1)) + 1)) then (if (wrap64 ((wrap64 (a0 + a1)) + 1)) < (t357.length : Int) then (some (((y360.set ((ji7) : Int).toNat a1).set ((wrap64 (a0 + a1)) : Int).toNat (wrap64 ((wrap64 (a0 + a1)) + 1))).set ((wrap64 ((wrap64 (a0 + a1)) + 1)) : Int).toNat (wrap64 (a0 + a1)))) else (none)) else (none)) else (none)) else (none)) else (none)) else (none)) = some r := by first | (rw [hji7] at H; exact H) | (simp only [hji7] at H ⊢; exact H)
   (try rw [hji7] at A3)
   (try rw [hji7] at Ny360)
   have hji7w : (IntKind.i64.wrap (a1 + 1)) = ji7 := (i64_w _).trans hji7
   by_cases c8 : 0 ≤ (ji7)
   ·rw [if_pos c8] at H
    have c8b0 : decide (0 ≤ (ji7)) = true := decide_eq_true c8
    clear c8
    by_cases c9 : (ji7) < (t357.length : Int)
    ·rw [if_pos c9] at H
     have c9b0 : decide ((ji7) < (t357.length : Int)) = true := decide_eq_true c9
     clear c9
     obtain ⟨y361, hy361⟩ : ∃ y_ : List Int, y_ = (y360.set ((ji7) : Int).toNat a1) := ⟨_, rfl⟩
     replace H : (if 0 ≤ (wrap64 (a0 + a1)) then (if (wrap64 (a0 + a1)) < (t357.length : Int) then (if 0 ≤ (wrap64 ((wrap64 (a0 + a1)) + 1)) then (if (wrap64 ((wrap64 (a0 + a1)) + 1)) < (t357.length : Int) then (some ((y361.set ((wrap64 (a0 + a1)) : Int).toNat (wrap64 ((wrap64 (a0 + a1)) + 1))).set ((wrap64 ((wrap64 (a0 + a1)) + 1)) : Int).toNat (wrap64 (a0 + a1)))) else (none)) else (none)) else (none)) else (none)) = some r := by first | (rw [hy361]; with_reducible exact H) | (have H2_ := (Option.bind_some _ _).symm.trans H; rw [hy361]; with_reducible exact H2_) | (have H2_ := (Option.bind_some _ _).symm.trans H; with_reducible exact H2_) | with_reducible exact H | (rw [hy361]; exact H) | exact H
     have Ny361 := Aside0.mk hy361
     clear hy361
     obtain ⟨ji11, hji11⟩ : ∃ j_ : Int, (wrap64 (a0 + a1)) = j_ := ⟨_, rfl⟩
     replace H : (if 0 ≤ (ji11) then (if (ji11) < (t357.length : Int) then (if 0 ≤ (wrap64 ((ji11) + 1)) then (if (wrap64 ((ji11) + 1)) < (t357.length : Int) then (some ((y361.set ((ji11) : Int).toNat (wrap64 ((ji11) + 1))).set ((wrap64 ((ji11) + 1)) : Int).toNat (ji11))) else (none)) else (none)) else (none)) else (none)) = some r := by first | (rw [hji11] at H; exact H) | (simp only [hji11] at H ⊢; exact H)
     (try rw [hji11] at A3)
     have hji11w : (IntKind.i64.wrap (a0 + a1)) = ji11 := (i64_w _).trans hji11
     by_cases c12 : 0 ≤ (ji11)
     ·rw [if_pos c12] at H
      have c12b0 : decide (0 ≤ (ji11)) = true := decide_eq_true c12
      clear c12
      by_cases c13 : (ji11) < (t357.length : Int)
      ·rw [if_pos c13] at H
       have c13b0 : decide ((ji11) < (t357.length : Int)) = true := decide_eq_true c13
       clear c13
       obtain ⟨y362, hy362⟩ : ∃ y_ : List Int, y_ = (y361.set ((ji11) : Int).toNat (wrap64 ((ji11) + 1))) := ⟨_, rfl⟩
       replace H : (if 0 ≤ (wrap64 ((ji11) + 1)) then (if (wrap64 ((ji11) + 1)) < (t357.length : Int) then (some (y362.set ((wrap64 ((ji11) + 1)) : Int).toNat (ji11))) else (none)) else (none)) = some r := by first | (rw [hy362]; with_reducible exact H) | (have H2_ := (Option.bind_some _ _).symm.trans H; rw [hy362]; with_reducible exact H2_) | (have H2_ := (Option.bind_some _ _).symm.trans H; with_reducible exact H2_) | with_reducible exact H | (rw [hy362]; exact H) | exact H
       have Ny362 := Aside0.mk hy362
       clear hy362
       obtain ⟨ji15, hji15⟩ : ∃ j_ : Int, (wrap64 ((ji11) + 1)) = j_ := ⟨_, rfl⟩
       replace H : (if 0 ≤ (ji15) then (if (ji15) < (t357.length : Int) then (some (y362.set ((ji15) : Int).toNat (ji11))) else (none)) else (none)) = some r := by first | (rw [hji15] at H; exact H) | (simp only [hji15] at H ⊢; exact H)
       (try rw [hji15] at A3)
       (try rw [hji15] at Ny362)
       have hji15w : (IntKind.i64.wrap ((ji11) + 1)) = ji15 := (i64_w _).trans hji15
       by_cases c16 : 0 ≤ (ji15)
       ·rw [if_pos c16] at H
        have c16b0 : decide (0 ≤ (ji15)) = true := decide_eq_true c16
        clear c16
        by_cases c17 : (ji15) < (t357.length : Int)
        ·rw [if_pos c17] at H
         have c17b0 : decide ((ji15) < (t357.length : Int)) = true := decide_eq_true c17
         clear c17
         obtain ⟨y363, hy363⟩ : ∃ y_ : List Int, y_ = (y362.set ((ji15) : Int).toNat (ji11)) := ⟨_, rfl⟩
         replace H : (some y363) = some r := by first | (rw [hy363]; with_reducible exact H) | (have H2_ := (Option.bind_some _ _).symm.trans H; rw [hy363]; with_reducible exact H2_) | (have H2_ := (Option.bind_some _ _).symm.trans H; with_reducible exact H2_) | with_reducible exact H | (rw [hy363]; exact H) | exact H
         have Ny363 := Aside0.mk hy363
         clear hy363
         obtain rfl := Option.some.inj H
         go_enter Try.func52, Try.ntmps52
         go_wp2_with (first | ((with_reducible refine gate_callee (f := 28) rfl ?_); refine goesL_ (some 7) rfl rfl Try.func28 (by kernel_rfl) rfl #[.int .i64 a0] rfl (by (try simp only [List.map_toArray, List.map_cons, List.map_nil]); first | done | rfl | (simp only [List.length_drop, List.length_take]; rfl)) ?_; (with_reducible refine (pomaderef07_Identity.calls k a0 t357 _ A3.out).mono ?_); rintro e w19 ⟨v358, rfl, ho0, hb⟩; refine ⟨_, rfl, ?_⟩; have n0_ := Aside0.mk (Kd.R_lower ho0 (below_size (by repeat (first | (with_reducible first | exact HB.out | apply below_alloc | apply pw_below_drewN | apply below_drew1) | exact HB.out)))); have n1_ := Aside0.mk (below_step (by repeat (first | (with_reducible first | exact HB.out | apply below_alloc | apply pw_below_drewN | apply below_drew1) | exact HB.out)) hb); clear HB; have HO359 := n0_; have HB := n1_; clear n0_ n1_; (try clear hb); (try clear hb2); (try clear hk); (try clear hi); (try clear ho0); have p6 : 0 ≤ (a1 : Int) := of_decide_eq_true (by first | (with_reducible assumption) | assumption); have q6 : (a1 : Int) < ((t357.length : Int) : Int) := of_decide_eq_true (by first | (with_reducible assumption) | assumption); obtain ⟨go6, co6, eo6, gb6, gl6, cl6, HG6⟩ := Kd.R_form HO359.out (by omega); (first | cases eo6 | (injection eo6 with ea_ en_ ec_; (first | subst ea_ | (injection ea_ with ea_; subst ea_)); subst ec_; clear en_)); have GB6 := Aside0.mk gb6; have GG6 := Aside0.mk HG6; clear gb6 gl6 HG6; obtain ⟨hx6_0, hf6_0⟩ := Kd.R_celln 0 HO359.out (a1 : Int) p6 q6; replace p6 := eq_true p6; replace q6 := eq_true q6; obtain ⟨hy20_, hz20_⟩ := Kd.R_celln 0 HO359.out (a1 : Int) (of_decide_eq_true (by first | (with_reducible assumption) | assumption)) (of_decide_eq_true (by first | (with_reducible assumption) | assumption)); have HP20 := Kd.R_putg HO359.out (a1 : Int) ji7) | ((with_reducible refine gate_store (t := 3) (p := 12) rfl ?_); refine store_event (t := 3) (p := 12) (v := ?vo_w21) (w1 := (w19.setCell ⟨go6, (a1 : Int).toNat, none⟩ (.int .i64 ji7))) ?hg ?ho ?hn ?hr ?_; (case ho => rfl); (case hg => rfl); (case hn => rfl); (case hr => first | (go_simp; done) | (go_simp; rfl)); intro w21 hw; have hg : w19.grownBy w21 (some go6) := (by rw [hw]; exact HP20.2); have hp_ : Kd.R (Kd.int .i64) 3 w21 w.heap.size (fun _ => True) (.slice (some ⟨go6, 0, none⟩) t357.length co6) y360 := (by rw [hw, Ny360.out]; exact HP20.1); clear HP20; have n0_ := Aside0.mk (hp_); have n1_ := Aside0.mk ((by rw [hw]; exact below_set (HB.out) GB6.out : Below w.heap.size w w21)); clear HO359; clear HB; have HO359 := n0_; have HB := n1_; clear n0_ n1_; clear hg hw hp_; have p10 : 0 ≤ ((ji7) : Int) := of_decide_eq_true (by first | (with_reducible assumption) | assumption); have q10 : ((ji7) : Int) < ((t357.length : Int) : Int) := of_decide_eq_true (by first | (with_reducible assumption) | assumption); obtain ⟨hx10_0, hf10_0⟩ := Kd.R_celln 0 HO359.out ((ji7) : Int) p10 q10; replace p10 := eq_true p10; replace q10 := eq_true q10; obtain ⟨hy22_, hz22_⟩ := Kd.R_celln 0 HO359.out ((ji7) : Int) (of_decide_eq_true (by first | (with_reducible assumption) | assumption)) (of_decide_eq_true (by first | (with_reducible assumption) | assumption)); have HP22 := Kd.R_putg HO359.out ((ji7) : Int) a1) | ((with_reducible refine gate_store (t := 3) (p := 17) rfl ?_); refine store_event (t := 3) (p := 17) (v := ?vo_w23) (w1 := (w21.setCell ⟨go6, ((ji7) : Int).toNat, none⟩ (.int .i64 a1))) ?hg ?ho ?hn ?hr ?_; (case ho => rfl); (case hg => rfl); (case hn => rfl); (case hr => first | (go_simp; done) | (go_simp; rfl)); intro w23 hw; have hg : w21.grownBy w23 (some go6) := (by rw [hw]; exact HP22.2); have hp_ : Kd.R (Kd.int .i64) 3 w23 w.heap.size (fun _ => True) (.slice (some ⟨go6, 0, none⟩) t357.length co6) y361 := (by rw [hw, Ny361.out]; exact HP22.1); clear HP22; have n0_ := Aside0.mk (hp_); have n1_ := Aside0.mk ((by rw [hw]; exact below_set (HB.out) GB6.out : Below w.heap.size w w23)); clear HO359; clear HB; have HO359 := n0_; have HB := n1_; clear n0_ n1_; clear hg hw hp_; have p14 : 0 ≤ ((ji11) : Int) := of_decide_eq_true (by first | (with_reducible assumption) | assumption); have q14 : ((ji11) : Int) < ((t357.length : Int) : Int) := of_decide_eq_true (by first | (with_reducible assumption) | assumption); obtain ⟨hx14_0, hf14_0⟩ := Kd.R_celln 0 HO359.out ((ji11) : Int) p14 q14; replace p14 := eq_true p14; replace q14 := eq_true q14; obtain ⟨hy24_, hz24_⟩ := Kd.R_celln 0 HO359.out ((ji11) : Int) (of_decide_eq_true (by first | (with_reducible assumption) | assumption)) (of_decide_eq_true (by first | (with_reducible assumption) | assumption)); have HP24 := Kd.R_putg HO359.out ((ji11) : Int) ji15) | ((with_reducible refine gate_store (t := 3) (p := 26) rfl ?_); refine store_event (t := 3) (p := 26) (v := ?vo_w25) (w1 := (w23.setCell ⟨go6, ((ji11) : Int).toNat, none⟩ (.int .i64 ji15))) ?hg ?ho ?hn ?hr ?_; (case ho => rfl); (case hg => rfl); (case hn => rfl); (case hr => first | (go_simp; done) | (go_simp; rfl)); intro w25 hw; have hg : w23.grownBy w25 (some go6) := (by rw [hw]; exact HP24.2); have hp_ : Kd.R (Kd.int .i64) 3 w25 w.heap.size (fun _ => True) (.slice (some ⟨go6, 0, none⟩) t357.length co6) y362 := (by rw [hw, Ny362.out]; exact HP24.1); clear HP24; have n0_ := Aside0.mk (hp_); have n1_ := Aside0.mk ((by rw [hw]; exact below_set (HB.out) GB6.out : Below w.heap.size w w25)); clear HO359; clear HB; have HO359 := n0_; have HB := n1_; clear n0_ n1_; clear hg hw hp_; have p18 : 0 ≤ ((ji15) : Int) := of_decide_eq_true (by first | (with_reducible assumption) | assumption); have q18 : ((ji15) : Int) < ((t357.length : Int) : Int) := of_decide_eq_true (by first | (with_reducible assumption) | assumption); obtain ⟨hx18_0, hf18_0⟩ := Kd.R_celln 0 HO359.out ((ji15) : Int) p18 q18; replace p18 := eq_true p18; replace q18 := eq_true q18; obtain ⟨hy26_, hz26_⟩ := Kd.R_celln 0 HO359.out ((ji15) : Int) (of_decide_eq_true (by first | (with_reducible assumption) | assumption)) (of_decide_eq_true (by first | (with_reducible assumption) | assumption)); have HP26 := Kd.R_putg HO359.out ((ji15) : Int) ji11) | ((with_reducible refine gate_store (t := 3) (p := 35) rfl ?_); refine store_event (t := 3) (p := 35) (v := ?vo_w27) (w1 := (w25.setCell ⟨go6, ((ji15) : Int).toNat, none⟩ (.int .i64 ji11))) ?hg ?ho ?hn ?hr ?_; (case ho => rfl); (case hg => rfl); (case hn => rfl); (case hr => first | (go_simp; done) | (go_simp; rfl)); intro w27 hw; have hg : w25.grownBy w27 (some go6) := (by rw [hw]; exact HP26.2); have hp_ : Kd.R (Kd.int .i64) 3 w27 w.heap.size (fun _ => True) (.slice (some ⟨go6, 0, none⟩) t357.length co6) y363 := (by rw [hw, Ny363.out]; exact HP26.1); clear HP26; have n0_ := Aside0.mk (hp_); have n1_ := Aside0.mk ((by rw [hw]; exact below_set (HB.out) GB6.out : Below w.heap.size w w27)); clear HO359; clear HB; have HO359 := n0_; have HB := n1_; clear n0_ n1_; clear hg hw hp_))
         go_ret
         exact ⟨_, by first | rfl | (simp [errW_none, errW_some] <;> rfl) | (simp only [← hji7, ← hji11, ← hji15]; first | rfl | (simp [errW_none, errW_some] <;> rfl)) | (simp [*, errW_none, errW_some] <;> rfl), by (with_reducible repeat (first | apply Kd.R_alloc | apply Kd.R_drewN | apply Kd.R_drew)); exact HO359.out, by repeat (first | (with_reducible first | exact HB.out | apply below_alloc | apply pw_below_drewN | apply below_drew1) | exact HB.out)⟩
        ·rw [if_neg c17] at H
         exact absurd H (by simp)
       ·rw [if_neg c16] at H
        exact absurd H (by simp)
      ·rw [if_neg c13] at H
       exact absurd H (by simp)
     ·rw [if_neg c12] at H
      exact absurd H (by simp)
    ·rw [if_neg c9] at H
     exact absurd H (by simp)
   ·rw [if_neg c8] at H
    exact absurd H (by simp)
  ·rw [if_neg c5] at H
   exact absurd H (by simp)
 ·rw [if_neg c4] at H
  exact absurd H (by simp)
end Go.Proofs.Ytjfkompfkgjdaaa.PC
end
section
/- Two rows of numbers that a loop only reads. -/
namespace Go.Proofs.Ytjfkompfkgjdaaa.PC
open Go.RowKit Go.Proofs.YtjfkompfkgjdaaaW.PrintWords Go.Proofs.YtjfkompfkgjdaaaW.PrintLast Go.Proofs.YtjfkompfkgjdaaaW.PrintMore
def XR (W : World) (b : Nat) (ok : Nat → Prop) (A0 : Option Addr) (c0 : Nat) (A1 : Option Addr) (c1 : Nat) (l0 l1 : List Int) : Prop :=
  Kd.V (Kd.int .i64) 3 W b ok (.slice A0 l0.length c0) l0 ∧ Kd.V (Kd.int .i64) 3 W b ok (.slice A1 l1.length c1) l1
section
variable {W w1 : World} {b c0 c1 : Nat} {ok ok' : Nat → Prop} {A0 A1 : Option Addr} {l0 l1 : List Int}
theorem XR_drew (h : XR W b ok A0 c0 A1 c1 l0 l1) : XR W.drew b ok A0 c0 A1 c1 l0 l1 := ⟨Kd.V_drew h.1, Kd.V_drew h.2⟩
theorem XR_drewN (h : XR W b ok A0 c0 A1 c1 l0 l1) (m : Nat) : XR (W.drewN m) b ok A0 c0 A1 c1 l0 l1 := ⟨Kd.V_drewN h.1 m, Kd.V_drewN h.2 m⟩
theorem XR_to {m : Nat} (e : World.drewN W m = w1) (h : XR W b ok A0 c0 A1 c1 l0 l1) : XR w1 b ok A0 c0 A1 c1 l0 l1 := by rw [← e]; exact XR_drewN h m
theorem XR_alloc (h : XR W b ok A0 c0 A1 c1 l0 l1) (o : Obj) : XR (W.alloc o) b ok A0 c0 A1 c1 l0 l1 := ⟨Kd.V_alloc h.1 o, Kd.V_alloc h.2 o⟩
theorem XR_below (h : XR W b ok A0 c0 A1 c1 l0 l1) (hb : Below W.heap.size W w1) : XR w1 b ok A0 c0 A1 c1 l0 l1 := ⟨Kd.V_below h.1 hb, Kd.V_below h.2 hb⟩
theorem XR_mono (h : XR W b ok A0 c0 A1 c1 l0 l1) (hm : ∀ k, ok k → ok' k) : XR W b ok' A0 c0 A1 c1 l0 l1 := ⟨Kd.V_mono h.1 hm, Kd.V_mono h.2 hm⟩
theorem XR_far (h : XR W b ok A0 c0 A1 c1 l0 l1) {p : Addr} (hok : ∀ k, ok k → k ≠ p.block) (u : Value) : XR (W.setCell p u) b ok A0 c0 A1 c1 l0 l1 := ⟨Kd.V_far h.1 hok u, Kd.V_far h.2 hok u⟩
theorem XR_grown (h : XR W b ok A0 c0 A1 c1 l0 l1) {row : Option Nat} (hg : W.grownBy w1 row) (hok : ∀ k, ok k → some k ≠ row) : XR w1 b ok A0 c0 A1 c1 l0 l1 := ⟨Kd.V_grown h.1 hg hok, Kd.V_grown h.2 hg hok⟩
theorem XR_after {v v1 : Value} (h : XR W b (fun k => ok k ∧ some k ≠ v.ownBlock) A0 c0 A1 c1 l0 l1) (hg : W.grownBy w1 v.ownBlock) (hat : v1.ownBlock = v.ownBlock ∨ ∃ b, v1.ownBlock = some b ∧ W.heap.size ≤ b) :
    XR w1 b (fun k => ok k ∧ some k ≠ v1.ownBlock) A0 c0 A1 c1 l0 l1 := ⟨Kd.V_afterv h.1 hg hat, Kd.V_afterv h.2 hg hat⟩
end
end Go.Proofs.Ytjfkompfkgjdaaa.PC
end
section
/- append(xs[:len(xs):len(xs)], x): the list that comes out is one of its own. -/
namespace Go.Proofs.Ytjfkompfkgjdaaa.PC
open Go.RowKit Go.Proofs.YtjfkompfkgjdaaaW.PrintWords Go.Proofs.YtjfkompfkgjdaaaW.PrintLast Go.Proofs.YtjfkompfkgjdaaaW.PrintMore
theorem cap_append {P : Program} {ops : Array Oper} {rest : List Oper} {o : Oper} {a : Act} {Q : Exit → Act → World → Prop} {W : World} (hgd : o.guard = none) (s x : Operand) (t : TypeId)
    (ho : o.op = .call { callee := .builtin .append, args := #[s, x], argTypes := #[t, t] }) (ht : P.underlying t = some (.slice 3)) (hinfo : (P.info? 3).map (fun i => (i.zero, i.size, i.bytes)) = some (some (.int .i64 0), 1, 8))
    (A : Option Addr) (l : List Int) (v : Int) (hs : a.eval s = .slice A l.length l.length) (hA : A = none → l.length = 0) (hx : a.eval x = .slice (some ⟨W.heap.size, 0, none⟩) 1 1) (hC : Kd.C (Kd.int .i64) W A l.length l) (hl : l.length ≤ 1000000)
    (h : ∀ v1 w1, Kd.R (Kd.int .i64) 3 w1 W.heap.size (fun _ => True) v1 (l ++ [v]) → Below W.heap.size W w1 → wpList P ops Q rest (a.put o.dst v1) w1) :
    wpList P ops Q (o :: rest) a (W.alloc (.cells #[.int .i64 v] 3)) := by
  cases hi : P.info? 3 with
  | none => rw [hi] at hinfo; cases hinfo
  | some i =>
    rw [hi] at hinfo
    simp only [Option.map_some, Option.some.injEq, Prod.mk.injEq] at hinfo
    obtain ⟨i1, i2, i3⟩ := hinfo
    have hC' := Kd.C_alloc hC (.cells #[.int .i64 v] 3)
    refine wpList_append_grows (W.alloc (.cells #[.int .i64 v] 3)) hgd s x t ho 3 i (.int .i64 0) 1 8 ht hi i1 i2 i3 rfl (by decide) A l.length l.length (nums .i64 l) hs (fun e => ⟨hA e, hA e⟩) (by simp [nums]) (fun b hb j u hu => ?_) ⟨W.heap.size, 0, none⟩ 1 1 [.int .i64 v] hx rfl (fun j u hu => ?_) (fun u hu => ?_) (by omega) (by unfold maxLen; omega) (by omega) ?_
    · obtain ⟨hj, e⟩ := List.getElem?_eq_some_iff.1 hu
      have hj2 : j < l.length := by simpa [nums] using hj
      obtain ⟨ad, ea, hc⟩ := Kd.at_int hC' (j : Int) (by omega) (by omega)
      rw [hb] at ea
      injection ea with ea
      subst ea
      rw [Int.toNat_natCast] at hc
      rw [hc, ← e]
      simp [nums, rd, List.getD_eq_getElem?_getD, hj2]
    · obtain ⟨hj, e⟩ := List.getElem?_eq_some_iff.1 hu
      have : j = 0 := by simp at hj; omega
      subst this
      rw [← e]
      show (W.alloc (.cells #[.int .i64 v] 3)).cell? ⟨W.heap.size, 0, none⟩ = _
      rw [World.cell?_alloc_at _ _ _ _ rfl]; rfl
    · rcases List.mem_cons.1 hu with rfl | hu
      · rfl
      · cases hu
    · intro v' w' ho' hg
      have hsz : (W.alloc (.cells #[.int .i64 v] 3)).heap.size = W.heap.size + 1 := by simp
      have hb0 : Below W.heap.size W (W.alloc (.cells #[.int .i64 v] 3)) := (Below.refl _ W).alloc (Nat.le_refl _) _
      have hb1 : Below W.heap.size (W.alloc (.cells #[.int .i64 v] 3)) w' := ⟨hg.os, hg.tape, hg.output, by have := hg.size; omega, fun k hk => hg.block k (by omega) (by simp)⟩
      refine h v' w' ?_ (hb0.trans hb1)
      have e : nums .i64 l ++ [.int .i64 v] = encs (fun n : Int => Value.int .i64 n) (l ++ [v]) := by simp [nums, encs]
      rw [e] at ho'
      have hlen : (l ++ [v]).length = l.length + 1 := by simp
      rw [← hlen] at ho'
      exact Kd.R_lower (Kd.R_of_own (ok := fun _ => True) ho' (fun _ _ => trivial)) (by omega)
theorem cap_len {l : List Int} {x : Int} {r : List Int} (h : strings_Builder_Len.f l x = some r) : l.length ≤ 1000000 := by
  unfold strings_Builder_Len.f at h; split at h
  · assumption
  · cases h
theorem cap_list {l : List Int} {x : Int} {r : List Int} (h : strings_Builder_Len.f l x = some r) : l ++ [x] = r := by
  unfold strings_Builder_Len.f at h; split at h
  · exact Option.some.inj h
  · cases h
theorem row_none {W : World} {A : Option Addr} {l : List Int} (h : Kd.C (Kd.int .i64) W A l.length l) (e : A = none) : l.length = 0 := by
  cases Nat.eq_zero_or_pos l.length with
  | inl h0 => exact h0
  | inr h0 =>
    obtain ⟨ad, ea, _⟩ := Kd.at_int h 0 (by omega) (by omega)
    rw [e] at ea; cases ea
end Go.Proofs.Ytjfkompfkgjdaaa.PC
end
