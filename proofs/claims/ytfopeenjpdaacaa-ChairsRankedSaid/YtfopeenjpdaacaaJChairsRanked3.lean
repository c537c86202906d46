/- Parts of the proof of LawChairsRanked, one behind the other: PCf47 PCf74 HBig HInt HLine MSpread HChoose HInit HMoves HIter HSpread PCf24 HQueue MTree HTree PCf38 PCg1. -/
import Derived.Outline
import Derived.Lib.Hide
import Derived.StillTailTactics
import Derived.Laws.Bits64b
import Derived.Deep.RegionHeld3
import Derived.Deep.RegionWith
import Derived.RangeFuncBox
import Derived.RangeFuncNested
import Derived.RangeFuncCalls
import Derived.RangeFuncLeaves
import Derived.TacticsInMore
import Derived.LoopIn
import Derived.IntWalk
import Derived.RangeFuncWrites
import Derived.Shelf.Abstract
import Derived.Stop.RegionWithIn
import Derived.OwnWalkIn
import Derived.Test.YtfopeenjpdaacaaJChairsRanked2
section
namespace Go.Proofs.Ytfopeenjpdaacaa.PC
open Go.RowKit Go.Proofs.YtfopeenjpdaacaaW.PrintWords Go.Proofs.YtfopeenjpdaacaaW.PrintLast Go.Proofs.YtfopeenjpdaacaaW.PrintMore
attribute [local go_sem] max2_int min2_int max_two min_two max_three min_three max_four min_four   -- for this text's walks alone
set_option linter.unusedVariables false
set_option linter.unusedSimpArgs false
/-! ### chairs_At: function 47 -/
mutual
def chairs_At.j0 : Nat → Int → Int → Bool → Option (List Int × Int)
 | 0, _, _, _ => none
 | k + 1, x0, x1, x10 => if x10 = true then (some (([] : List Int), 2)) else (if x1 < 0 then (some (([] : List Int), 4)) else ((chairs_power.f k (wrap64 (x0 + 1)) (wrap64 (x0 - 1))).bind fun t622 => (if x1 ≥ t622 then (some (([] : List Int), 4)) else (chairs_At.l0 k x0 x1 ([] : List Int)))))
def chairs_At.l0 : Nat → Int → Int → List Int → Option (List Int × Int)
 | 0, _, _, _ => none
 | k + 1, x0, x1, x6 => if (x6.length : Int) < x0 then (chairs_At.l1 k x0 x1 x6 0) else (some (x6, 0))
def chairs_At.l1 : Nat → Int → Int → List Int → Int → Option (List Int × Int)
 | 0, _, _, _, _ => none
 | k + 1, x0, x1, x6, x7 => (slices_IndexFunc_int_int.f x6 (x6.length : Int) x7).bind fun t623 => ((chairs_ways.f k x0 t623).bind fun t626 => (if x1 < t626 then (chairs_At.l0 k x0 x1 t623) else (chairs_At.l1 k x0 (wrap64 (x1 - t626)) x6 (wrap64 (x7 + 1)))))
end
def chairs_At.f (k : Nat) (a0 : Int) (a1 : Int) : Option (List Int × Int) := if a0 < 1 then (chairs_At.j0 k a0 a1 true) else (chairs_At.j0 k a0 a1 (decide (a0 > 16)))
theorem chairs_At.mono_l : ∀ k, (∀ y0 y1 y2, LeO (chairs_At.j0 k y0 y1 y2) (chairs_At.j0 (k + 1) y0 y1 y2)) ∧ (∀ y0 y1 y2, LeO (chairs_At.l0 k y0 y1 y2) (chairs_At.l0 (k + 1) y0 y1 y2)) ∧ (∀ y0 y1 y2 y3, LeO (chairs_At.l1 k y0 y1 y2 y3) (chairs_At.l1 (k + 1) y0 y1 y2 y3))
 | 0 => ⟨fun _ _ _ r h => by simp [chairs_At.j0] at h, fun _ _ _ r h => by simp [chairs_At.l0] at h, fun _ _ _ _ r h => by simp [chairs_At.l1] at h⟩
 | k + 1 => by
  obtain ⟨ih0, ih1, ih2⟩ := chairs_At.mono_l k
  refine ⟨?_, ?_, ?_⟩
  ·intro y0 y1 y2
   unfold chairs_At.j0
   repeat' first
   | (with_reducible exact ih0 _ _ _)
   | (with_reducible exact ih1 _ _ _)
   | (with_reducible exact ih2 _ _ _ _)
   | (with_reducible exact chairs_power.mono _ _ _)
   | (with_reducible exact chairs_ways.mono _ _ _)
   | (with_reducible exact LeO.refl _)
   | (with_reducible exact LeO.none _)
   | (with_reducible refine LeO.ite ?_ ?_)
   | (with_reducible refine LeO.bind ?_ (fun _ => ?_))
   | exact ih0 _ _ _
   | exact ih1 _ _ _
   | exact ih2 _ _ _ _
   | exact chairs_power.mono _ _ _
   | exact chairs_ways.mono _ _ _
   | exact LeO.none _
   | refine LeO.ite ?_ ?_
   | refine LeO.bind ?_ (fun _ => ?_)
  ·intro y0 y1 y2
   unfold chairs_At.l0
   repeat' first
   | (with_reducible exact ih0 _ _ _)
   | (with_reducible exact ih1 _ _ _)
   | (with_reducible exact ih2 _ _ _ _)
   | (with_reducible exact chairs_power.mono _ _ _)
   | (with_reducible exact chairs_ways.mono _ _ _)
   | (with_reducible exact LeO.refl _)
   | (with_reducible exact LeO.none _)
   | (with_reducible refine LeO.ite ?_ ?_)
   | (with_reducible refine LeO.bind ?_ (fun _ => ?_))
   | exact ih0 _ _ _
   | exact ih1 _ _ _
   | exact ih2 _ _ _ _
   | exact chairs_power.mono _ _ _
   | exact chairs_ways.mono _ _ _
   | exact LeO.none _
   | refine LeO.ite ?_ ?_
   | refine LeO.bind ?_ (fun _ => ?_)
  ·intro y0 y1 y2 y3
   unfold chairs_At.l1
   repeat' first
   | (with_reducible exact ih0 _ _ _)
   | (with_reducible exact ih1 _ _ _)
   | (with_reducible exact ih2 _ _ _ _)
   | (with_reducible exact chairs_power.mono _ _ _)
   | (with_reducible exact chairs_ways.mono _ _ _)
   | (with_reducible exact LeO.refl _)
   | (with_reducible exact LeO.none _)
   | (with_reducible refine LeO.ite ?_ ?_)
   | (with_reducible refine LeO.bind ?_ (fun _ => ?_))
   | exact ih0 _ _ _
   | exact ih1 _ _ _
   | exact ih2 _ _ _ _
   | exact chairs_power.mono _ _ _
   | exact chairs_ways.mono _ _ _
   | exact LeO.none _
   | refine LeO.ite ?_ ?_
   | refine LeO.bind ?_ (fun _ => ?_)
theorem chairs_At.mono : ∀ a0 a1 k, LeO (chairs_At.f k a0 a1) (chairs_At.f (k + 1) a0 a1) := by
 intro a0 a1 k
 obtain ⟨ih0, ih1, ih2⟩ := chairs_At.mono_l k
 unfold chairs_At.f
 repeat' first
   | (with_reducible exact ih0 _ _ _)
   | (with_reducible exact ih1 _ _ _)
   | (with_reducible exact ih2 _ _ _ _)
   | (with_reducible exact chairs_power.mono _ _ _)
   | (with_reducible exact chairs_ways.mono _ _ _)
   | (with_reducible exact LeO.refl _)
   | (with_reducible exact LeO.none _)
   | (with_reducible refine LeO.ite ?_ ?_)
   | (with_reducible refine LeO.bind ?_ (fun _ => ?_))
   | exact ih0 _ _ _
   | exact ih1 _ _ _
   | exact ih2 _ _ _ _
   | exact chairs_power.mono _ _ _
   | exact chairs_ways.mono _ _ _
   | exact LeO.none _
   | refine LeO.ite ?_ ?_
   | refine LeO.bind ?_ (fun _ => ?_)
set_option maxHeartbeats 8000000 in
set_option maxRecDepth 100000 in
theorem chairs_At.calls (k : Nat) (a0 : Int) (a1 : Int) (r1 : List Int) (r2 : Int) (w : World) (h : chairs_At.f k a0 a1 = some (r1, r2)) :
  Calls Try.prog 47 #[.int .i64 a0, .int .i64 a1] w fun e w' => ∃ v0_ : Value, e = .returned (.tuple #[v0_, .int .i64 r2]) ∧ Kd.R (Kd.int .i64) 3 w' w.heap.size (fun _ => True) v0_ r1 ∧ Below w.heap.size w w' := by
 have HB := Aside0.mk (Below.refl w.heap.size w)
 have H : (if a0 < 1 then (chairs_At.j0 k a0 a1 true) else (chairs_At.j0 k a0 a1 (decide (a0 > 16)))) = some (r1, r2) := h
 clear h
 have HC3 := Aside0.mk H
 clear H
 go_enter Try.func47, Try.ntmps47
 go_upto_region 1 with (fail)
 go_cut [10] (fun v10 wc => ∃ (kq : Nat) (x10_2 : Bool), v10 = .bool x10_2 ∧ Aside0 (chairs_At.j0 kq a0 a1 x10_2 = some (r1, r2)) ∧ Aside0 (kq ≤ k) ∧ Aside0 (Below w.heap.size w wc))
 case first =>
  have H := HC3.out
  clear HC3
  by_cases c4 : a0 < 1
  ·rw [if_pos c4] at H
   have c4b0 : decide (a0 < 1) = true := decide_eq_true c4
   clear c4
   (first | rw [c4b0] | (simp only [i64_w, i32_w]; rw [c4b0]) | skip)
   have H' := Aside0.mk H
   clear H
   go_wp2
   go_meet
   case rel => exact ⟨_, (true), (by first | rfl | (simp; done) | (simp [*]; done)), H', ⟨by first | omega | exact Nat.le_refl _⟩, ⟨by repeat (first | (with_reducible first | exact HB.out | apply below_alloc | apply pw_below_drewN | apply below_drew1) | exact HB.out)⟩⟩
  ·rw [if_neg c4] at H
   have c4b0 : decide (a0 < 1) = false := decide_eq_false c4
   clear c4
   (first | rw [c4b0] | (simp only [i64_w, i32_w]; rw [c4b0]) | skip)
   have H' := Aside0.mk H
   clear H
   go_wp2
   go_meet
   case rel => exact ⟨_, (decide (a0 > 16)), (by first | rfl | (simp; done) | (simp [*]; done)), H', ⟨by first | omega | exact Nat.le_refl _⟩, ⟨by repeat (first | (with_reducible first | exact HB.out | apply below_alloc | apply pw_below_drewN | apply below_drew1) | exact HB.out)⟩⟩
 case rest =>
  clear HC3
  try clear p2
  try clear c4
  try clear c4b0
  obtain ⟨kq, x10_2, rfl, HA, HJ2, HB⟩ := hcut
  cases kq with
  | zero => exact absurd HA.out (by simp [chairs_At.j0])
  | succ kj2 =>
   have H := HA.out
   clear HA
   simp only [chairs_At.j0] at H
   by_cases c5 : x10_2 = true
   ·subst c5
    have H1 : (some (([] : List Int), 2)) = some (r1, r2) := by rw [if_pos rfl] at H; exact H
    clear H
    have H := H1
    clear H1
    simp only [Option.some.injEq, Prod.mk.injEq] at H
    obtain ⟨rfl, rfl⟩ := H
    go_wp2
    go_ret2
    exact ⟨_, by first | rfl | (simp [errW_none, errW_some] <;> rfl) | (simp [*, errW_none, errW_some] <;> rfl), by first | exact Kd.R_nil _ _ _ _ _ | exact Kd.N_nil _ _ _ _ _ | exact Kd.V_nil _ _ _ _ _ | exact Kd.Q_nil _ _ _ _ _ | exact Kd.S_nil _ _ _ _ _, by repeat (first | (with_reducible first | exact HB.out | apply below_alloc | apply pw_below_drewN | apply below_drew1) | exact HB.out)⟩
   ·replace c5 := Bool.eq_false_iff.mpr c5
    subst c5
    have H1 : (if a1 < 0 then (some (([] : List Int), 4)) else ((chairs_power.f kj2 (wrap64 (a0 + 1)) (wrap64 (a0 - 1))).bind fun t622 => (if a1 ≥ t622 then (some (([] : List Int), 4)) else (chairs_At.l0 kj2 a0 a1 ([] : List Int))))) = some (r1, r2) := by rw [if_neg (show ¬ (false = true) by decide)] at H; exact H
    clear H
    have H := H1
    clear H1
    by_cases c6 : a1 < 0
    ·rw [if_pos c6] at H
     have c6b0 : decide (a1 < 0) = true := decide_eq_true c6
     clear c6
     simp only [Option.some.injEq, Prod.mk.injEq] at H
     obtain ⟨rfl, rfl⟩ := H
     go_wp2
     go_ret2
     exact ⟨_, by first | rfl | (simp [errW_none, errW_some] <;> rfl) | (simp [*, errW_none, errW_some] <;> rfl), by first | exact Kd.R_nil _ _ _ _ _ | exact Kd.N_nil _ _ _ _ _ | exact Kd.V_nil _ _ _ _ _ | exact Kd.Q_nil _ _ _ _ _ | exact Kd.S_nil _ _ _ _ _, by repeat (first | (with_reducible first | exact HB.out | apply below_alloc | apply pw_below_drewN | apply below_drew1) | exact HB.out)⟩
    ·rw [if_neg c6] at H
     have c6b0 : decide (a1 < 0) = false := decide_eq_false c6
     clear c6
     replace H := Option.bind_eq_some_iff.mp H
     obtain ⟨t622, A70, H⟩ := H
     replace H : (if a1 ≥ t622 then (some (([] : List Int), 4)) else (chairs_At.l0 kj2 a0 a1 ([] : List Int))) = some (r1, r2) := H
     have A7 := Aside0.mk A70
     clear A70
     by_cases c8 : a1 ≥ t622
     ·rw [if_pos c8] at H
      have c8b0 : decide (t622 ≤ a1) = true := decide_eq_true c8
      clear c8
      simp only [Option.some.injEq, Prod.mk.injEq] at H
      obtain ⟨rfl, rfl⟩ := H
      go_wp2_with (first | (go_at_call 49; (with_reducible refine (chairs_power.calls kj2 (wrap64 (a0 + 1)) (wrap64 (a0 - 1)) t622 _ A7.out).mono ?_); rintro e w' ⟨rfl, ⟨nd, rfl⟩⟩))
      go_ret2
      exact ⟨_, by first | rfl | (simp [errW_none, errW_some] <;> rfl) | (simp [*, errW_none, errW_some] <;> rfl), by first | exact Kd.R_nil _ _ _ _ _ | exact Kd.N_nil _ _ _ _ _ | exact Kd.V_nil _ _ _ _ _ | exact Kd.Q_nil _ _ _ _ _ | exact Kd.S_nil _ _ _ _ _, by repeat (first | (with_reducible first | exact HB.out | apply below_alloc | apply pw_below_drewN | apply below_drew1) | exact HB.out)⟩
     ·rw [if_neg c8] at H
      have c8b0 : decide (t622 ≤ a1) = false := decide_eq_false c8
      clear c8
      have H' := Aside0.mk H
      clear H
      go_wp2_with (first | (go_at_call 49; (with_reducible refine (chairs_power.calls kj2 (wrap64 (a0 + 1)) (wrap64 (a0 - 1)) t622 _ A7.out).mono ?_); rintro e w' ⟨rfl, ⟨nd, rfl⟩⟩))
      go_loopg [1, 6] kj2 (fun kq v1 v6 w' => ∃ (x1_2 : Int) (x6_2 : List Int), v1 = .int .i64 x1_2 ∧ Aside0 (chairs_At.l0 kq a0 x1_2 x6_2 = some (r1, r2)) ∧ Aside0 (kq ≤ kj2) ∧ Aside0 (Kd.R (Kd.int .i64) 3 w' w.heap.size (fun _ => True) v6 x6_2) ∧ Aside0 (Below w.heap.size w w'))
      case atStart => exact ⟨(a1), (([] : List Int)), (by first | rfl | (simp; done) | (simp [*]; done)), H', ⟨Nat.le_refl _⟩, ⟨by first | exact Kd.R_nil _ _ _ _ _ | exact Kd.N_nil _ _ _ _ _ | exact Kd.V_nil _ _ _ _ _ | exact Kd.Q_nil _ _ _ _ _ | exact Kd.S_nil _ _ _ _ _⟩, ⟨by repeat (first | (with_reducible first | exact HB.out | apply below_alloc | apply pw_below_drewN | apply below_drew1) | exact HB.out)⟩⟩
      case round =>
       clear H'
       try clear p2
       try clear c4
       try clear c4b0
       try clear c5
       try clear c6
       try clear c6b0
       try clear p6
       try clear c8
       try clear c8b0
       try clear p2
       obtain ⟨x1_2, x6_2, rfl, HA, HK2, HO_6, HB⟩ := hrel
       cases gk with
       | zero => exact absurd HA.out (by simp [chairs_At.l0])
       | succ k2 =>
        have H := HA.out
        clear HA
        simp only [chairs_At.l0] at H
        by_cases c9 : (x6_2.length : Int) < a0
        ·rw [if_pos c9] at H
         have c9b0 : decide ((x6_2.length : Int) < a0) = true := decide_eq_true c9
         clear c9
         have H' := Aside0.mk H
         clear H
         obtain ⟨Ao10, co10, eo10⟩ := Kd.R_slice HO_6.out
         subst eo10
         go_wp2
         go_loopg [1, 6, 7] k2 (fun kq v1 v6 v7 w' => ∃ (x1_3 : Int) (x6_3 : List Int) (x7_3 : Int), v1 = .int .i64 x1_3 ∧ v7 = .int .i64 x7_3 ∧ Aside0 (chairs_At.l1 kq a0 x1_3 x6_3 x7_3 = some (r1, r2)) ∧ Aside0 (kq ≤ k2) ∧ Aside0 (Kd.R (Kd.int .i64) 3 w' w.heap.size (fun _ => True) v6 x6_3) ∧ Aside0 (Below w.heap.size w w'))
         case atStart => exact ⟨(x1_2), (x6_2), (0), (by first | rfl | (simp; done) | (simp [*]; done)), (by first | rfl | (simp; done) | (simp [*]; done)), H', ⟨Nat.le_refl _⟩, ⟨by (with_reducible repeat (first | apply Kd.R_alloc | apply Kd.R_drewN | apply Kd.R_drew)); exact HO_6.out⟩, ⟨by repeat (first | (with_reducible first | exact HB.out | apply below_alloc | apply pw_below_drewN | apply below_drew1) | exact HB.out)⟩⟩
         case round =>
          clear H'
          try clear p2
          try clear c4
          try clear c4b0
          try clear c5
          try clear c6
          try clear c6b0
          try clear p6
          try clear c8
          try clear c8b0
          try clear c9
          try clear c9b0
          try clear p2
          try clear p6
          obtain ⟨x1_3, x6_3, x7_3, rfl, rfl, HA, HK3, HO_6, HB⟩ := hrel
          cases gk with
          | zero => exact absurd HA.out (by simp [chairs_At.l1])
          | succ k3 =>
           have H := HA.out
           clear HA
           simp only [chairs_At.l1] at H
           replace H := Option.bind_eq_some_iff.mp H
           obtain ⟨t623, A110, H⟩ := H
           replace H : ((chairs_ways.f k3 a0 t623).bind fun t626 => (if x1_3 < t626 then (chairs_At.l0 k3 a0 x1_3 t623) else (chairs_At.l1 k3 a0 (wrap64 (x1_3 - t626)) x6_3 (wrap64 (x7_3 + 1))))) = some (r1, r2) := H
           have A11 := Aside0.mk A110
           clear A110
           replace H := Option.bind_eq_some_iff.mp H
           obtain ⟨t626, A120, H⟩ := H
           replace H : (if x1_3 < t626 then (chairs_At.l0 k3 a0 x1_3 t623) else (chairs_At.l1 k3 a0 (wrap64 (x1_3 - t626)) x6_3 (wrap64 (x7_3 + 1)))) = some (r1, r2) := H
           have A12 := Aside0.mk A120
           clear A120
           by_cases c13 : x1_3 < t626
           ·rw [if_pos c13] at H
            have c13b0 : decide (x1_3 < t626) = true := decide_eq_true c13
            clear c13
            have H' := Aside0.mk H
            clear H
            obtain ⟨Ao14, co14, eo14⟩ := Kd.R_slice HO_6.out
            subst eo14
            have hcut266_ := eq_true (cut_lo A11.out)
            have hcut267_ := eq_true (cut_hi A11.out (Kd.R_reads' HO_6.out).2.1)
            have hcut268_ := eq_true (cut_hi2 A11.out (Kd.R_reads' HO_6.out).2.1)
            have hcut269_ := eq_true ((Kd.R_reads' HO_6.out).2.1)
            go_wp2_with (first | ((with_reducible refine gate_builtin (b := .append) (xs := #[.tmp 40, .tmp 42]) rfl ?_); at_builtin; refine cut_append rfl (.tmp 40) (.tmp 42) 22 rfl Try.underlying22 info3 Ao14 x6_3 (x6_3.length : Int) x7_3 _ A11.out rfl rfl ?hC ?_; (case hC => repeat (first | exact (Kd.R_reads' HO_6.out).2.2 | (with_reducible refine Kd.C_alloc ?_ _) | (with_reducible refine Kd.C_alloc ?_ _) | (with_reducible refine Kd.C_drewN ?_ _) | (with_reducible refine Kd.C_drew ?_))); intro v624 w15 ho0 hb; have n0_ := Aside0.mk (Kd.R_elder' (by (with_reducible repeat (first | apply Kd.R_alloc | apply Kd.R_drewN | apply Kd.R_drew)); exact HO_6.out) (Kd.R_base ho0) hb); have n1_ := Aside0.mk (Kd.R_lower (Kd.R_new' ho0 (Kd.R_lt (by (with_reducible repeat (first | apply Kd.R_alloc | apply Kd.R_drewN | apply Kd.R_drew)); exact HO_6.out))) (below_size (by repeat (first | (with_reducible first | exact HB.out | apply below_alloc | apply pw_below_drewN | apply below_drew1) | exact HB.out)))); have n2_ := Aside0.mk (below_step (by repeat (first | (with_reducible first | exact HB.out | apply below_alloc | apply pw_below_drewN | apply below_drew1) | exact HB.out)) hb); clear HO_6; clear HB; have HO_6 := n0_; have HO625 := n1_; have HB := n2_; clear n0_ n1_ n2_; (try clear hb); (try clear hb2); (try clear hk); (try clear hi); (try clear ho0); obtain ⟨Ao16, co16, eo16⟩ := Kd.R_slice HO625.out; subst eo16) | ((with_reducible refine gate_callee (f := 63) rfl ?_); refine goesL_ (some 46) rfl rfl Try.func63 (by kernel_rfl) rfl #[.int .i64 a0, .slice Ao16 t623.length co16] rfl (by (try simp only [List.map_toArray, List.map_cons, List.map_nil]); first | done | rfl | (simp only [List.length_drop, List.length_take]; rfl)) ?_; (with_reducible refine (chairs_ways.calls k3 a0 _ _ t623 t626 _ ?side1 ?side2 A12.out).mono ?_); (case side1 => repeat (first | exact (Kd.R_reads' HO625.out).2.2 | (with_reducible refine Kd.C_alloc ?_ _) | (with_reducible refine Kd.C_drewN ?_ _) | (with_reducible refine Kd.C_drew ?_))); (case side2 => exact (Kd.R_reads' HO625.out).2.1); rintro e w17 ⟨rfl, hb⟩; refine ⟨_, rfl, ?_⟩; have n0_ := Aside0.mk (Kd.R_below (by (with_reducible repeat (first | apply Kd.R_alloc | apply Kd.R_drewN | apply Kd.R_drew)); exact HO_6.out) hb); have n1_ := Aside0.mk (Kd.R_below (by (with_reducible repeat (first | apply Kd.R_alloc | apply Kd.R_drewN | apply Kd.R_drew)); exact HO625.out) hb); have n2_ := Aside0.mk (below_step (by repeat (first | (with_reducible first | exact HB.out | apply below_alloc | apply pw_below_drewN | apply below_drew1) | exact HB.out)) hb); clear HO_6; clear HO625; clear HB; have HO_6 := n0_; have HO625 := n1_; have HB := n2_; clear n0_ n1_ n2_; (try clear hb); (try clear hb2); (try clear hk); (try clear hi)))
            go_roundg k3
            case measure => have := HJ2.out; have := HK2.out; have := HK3.out; omega
            case rel => exact ⟨(x1_3), (t623), (by first | rfl | (simp; done) | (simp [*]; done)), H', ⟨by have := HJ2.out; have := HK2.out; have := HK3.out; omega⟩, ⟨by (with_reducible repeat (first | apply Kd.R_alloc | apply Kd.R_drewN | apply Kd.R_drew)); exact Kd.R_mono HO625.out (fun _ hk => trivial)⟩, ⟨by repeat (first | (with_reducible first | exact HB.out | apply below_alloc | apply pw_below_drewN | apply below_drew1) | exact HB.out)⟩⟩
           ·rw [if_neg c13] at H
            have c13b0 : decide (x1_3 < t626) = false := decide_eq_false c13
            clear c13
            have H' := Aside0.mk H
            clear H
            obtain ⟨Ao18, co18, eo18⟩ := Kd.R_slice HO_6.out
            subst eo18
            have hcut281_ := eq_true (cut_lo A11.out)
            have hcut282_ := eq_true (cut_hi A11.out (Kd.R_reads' HO_6.out).2.1)
            have hcut283_ := eq_true (cut_hi2 A11.out (Kd.R_reads' HO_6.out).2.1)
            have hcut284_ := eq_true ((Kd.R_reads' HO_6.out).2.1)
            go_wp2_with (first | ((with_reducible refine gate_builtin (b := .append) (xs := #[.tmp 40, .tmp 42]) rfl ?_); at_builtin; refine cut_append rfl (.tmp 40) (.tmp 42) 22 rfl Try.underlying22 info3 Ao18 x6_3 (x6_3.length : Int) x7_3 _ A11.out rfl rfl ?hC ?_; (case hC => repeat (first | exact (Kd.R_reads' HO_6.out).2.2 | (with_reducible refine Kd.C_alloc ?_ _) | (with_reducible refine Kd.C_alloc ?_ _) | (with_reducible refine Kd.C_drewN ?_ _) | (with_reducible refine Kd.C_drew ?_))); intro v624 w19 ho0 hb; have n0_ := Aside0.mk (Kd.R_elder' (by (with_reducible repeat (first | apply Kd.R_alloc | apply Kd.R_drewN | apply Kd.R_drew)); exact HO_6.out) (Kd.R_base ho0) hb); have n1_ := Aside0.mk (Kd.R_lower (Kd.R_new' ho0 (Kd.R_lt (by (with_reducible repeat (first | apply Kd.R_alloc | apply Kd.R_drewN | apply Kd.R_drew)); exact HO_6.out))) (below_size (by repeat (first | (with_reducible first | exact HB.out | apply below_alloc | apply pw_below_drewN | apply below_drew1) | exact HB.out)))); have n2_ := Aside0.mk (below_step (by repeat (first | (with_reducible first | exact HB.out | apply below_alloc | apply pw_below_drewN | apply below_drew1) | exact HB.out)) hb); clear HO_6; clear HB; have HO_6 := n0_; have HO625 := n1_; have HB := n2_; clear n0_ n1_ n2_; (try clear hb); (try clear hb2); (try clear hk); (try clear hi); (try clear ho0); obtain ⟨Ao20, co20, eo20⟩ := Kd.R_slice HO625.out; subst eo20) | ((with_reducible refine gate_callee (f := 63) rfl ?_); refine goesL_ (some 46) rfl rfl Try.func63 (by kernel_rfl) rfl #[.int .i64 a0, .slice Ao20 t623.length co20] rfl (by (try simp only [List.map_toArray, List.map_cons, List.map_nil]); first | done | rfl | (simp only [List.length_drop, List.length_take]; rfl)) ?_; (with_reducible refine (chairs_ways.calls k3 a0 _ _ t623 t626 _ ?side1 ?side2 A12.out).mono ?_); (case side1 => repeat (first | exact (Kd.R_reads' HO625.out).2.2 | (with_reducible refine Kd.C_alloc ?_ _) | (with_reducible refine Kd.C_drewN ?_ _) | (with_reducible refine Kd.C_drew ?_))); (case side2 => exact (Kd.R_reads' HO625.out).2.1); rintro e w21 ⟨rfl, hb⟩; refine ⟨_, rfl, ?_⟩; have n0_ := Aside0.mk (Kd.R_below (by (with_reducible repeat (first | apply Kd.R_alloc | apply Kd.R_drewN | apply Kd.R_drew)); exact HO_6.out) hb); have n1_ := Aside0.mk (Kd.R_below (by (with_reducible repeat (first | apply Kd.R_alloc | apply Kd.R_drewN | apply Kd.R_drew)); exact HO625.out) hb); have n2_ := Aside0.mk (below_step (by repeat (first | (with_reducible first | exact HB.out | apply below_alloc | apply pw_below_drewN | apply below_drew1) | exact HB.out)) hb); clear HO_6; clear HO625; clear HB; have HO_6 := n0_; have HO625 := n1_; have HB := n2_; clear n0_ n1_ n2_; (try clear hb); (try clear hb2); (try clear hk); (try clear hi)))
            go_roundg k3
            case measure => have := HJ2.out; have := HK2.out; have := HK3.out; omega
            case rel => exact ⟨(wrap64 (x1_3 - t626)), (x6_3), (wrap64 (x7_3 + 1)), (by first | rfl | (simp; done) | (simp [*]; done)), (by first | rfl | (simp; done) | (simp [*]; done)), H', ⟨by have := HJ2.out; have := HK2.out; have := HK3.out; omega⟩, ⟨by (with_reducible repeat (first | apply Kd.R_alloc | apply Kd.R_drewN | apply Kd.R_drew)); exact Kd.R_mono HO_6.out (fun _ hk => trivial)⟩, ⟨by repeat (first | (with_reducible first | exact HB.out | apply below_alloc | apply pw_below_drewN | apply below_drew1) | exact HB.out)⟩⟩
        ·rw [if_neg c9] at H
         have c9b0 : decide ((x6_2.length : Int) < a0) = false := decide_eq_false c9
         clear c9
         simp only [Option.some.injEq, Prod.mk.injEq] at H
         obtain ⟨rfl, rfl⟩ := H
         obtain ⟨Ao22, co22, eo22⟩ := Kd.R_slice HO_6.out
         subst eo22
         go_wp2
         go_ret2
         exact ⟨_, by first | rfl | (simp [errW_none, errW_some] <;> rfl) | (simp [*, errW_none, errW_some] <;> rfl), by (with_reducible repeat (first | apply Kd.R_alloc | apply Kd.R_drewN | apply Kd.R_drew)); exact HO_6.out, by repeat (first | (with_reducible first | exact HB.out | apply below_alloc | apply pw_below_drewN | apply below_drew1) | exact HB.out)⟩
end Go.Proofs.Ytfopeenjpdaacaa.PC
end
section
namespace Go.Proofs.Ytfopeenjpdaacaa.PC
open Go.RowKit Go.Proofs.YtfopeenjpdaacaaW.PrintWords Go.Proofs.YtfopeenjpdaacaaW.PrintLast Go.Proofs.YtfopeenjpdaacaaW.PrintMore
attribute [local go_sem] max2_int min2_int max_two min_two max_three min_three max_four min_four   -- for this text's walks alone
set_option linter.unusedVariables false
set_option linter.unusedSimpArgs false
end Go.Proofs.Ytfopeenjpdaacaa.PC
end
section
/- Numbers of the program's big package that have one digit at most: contracts of trim, of, plus, times and the methods over them. -/
namespace Go.Proofs.Ytfopeenjpdaacaa.PC
open Go.RowKit Go.Proofs.YtfopeenjpdaacaaW.PrintWords Go.Proofs.YtfopeenjpdaacaaW.PrintLast Go.Proofs.YtfopeenjpdaacaaW.PrintMore
/-- digits without zeros at the end: how many are left -/
def tl (xs : List Int) : Nat → Nat
  | 0 => 0
  | n + 1 => if xs.getD n 0 = 0 then tl xs n else n + 1
set_option maxHeartbeats 400000 in
theorem trim_walk (g n c : Nat) (xs : List Int) (w : World) (hx : ∀ j, j < n → w.cell? ⟨g, j, none⟩ = some (.int .u32 (xs.getD j 0))) (_hn : n ≤ 1000) (hc : n ≤ c) (hcm : c ≤ 1000000) :
    Calls Try.prog 84 #[.slice (some ⟨g, 0, none⟩) n c] w fun e w' => e = .returned (.slice (some ⟨g, 0, none⟩) (tl xs n) c) ∧ w = w' := by
  have HX := Lib.hid hx
  clear hx
  obtain ⟨r, hr⟩ : ∃ r, tl xs n = r := ⟨_, rfl⟩
  rw [hr]
  have HR := Lib.hid hr
  clear hr
  go_enter Try.func84, Try.ntmps84
  go_wp2
  go_loop [3] (fun i => ∃ k : Nat, k ≤ n ∧ i = .int .i64 (k : Int) ∧ Hid (tl xs k = r)) (fun i => (intOf i).toNat)
  case atStart => exact ⟨n, Nat.le_refl _, rfl, HR⟩
  case round =>
    obtain ⟨k, hk, rfl, hkr⟩ := hrel
    rcases Nat.eq_zero_or_pos k with h0 | h0
    · subst h0
      have e : 0 = r := hkr.out
      subst e
      go_wp2
      go_ret
      exact ⟨rfl, rfl⟩
    · obtain ⟨m, rfl⟩ : ∃ m, k = m + 1 := ⟨k - 1, by omega⟩
      have d1 : decide ((0 : Int) < ((m + 1 : Nat) : Int)) = true := decide_eq_true (by omega)
      have e1 : (((m + 1 : Nat) : Int) - 1) = (m : Int) := by omega
      have hcell := HX.out m (by omega)
      obtain ⟨x, hxv⟩ : ∃ x, xs.getD m 0 = x := ⟨_, rfl⟩
      rw [hxv] at hcell
      have HXV := Lib.hid hxv
      clear hxv
      have hk2 := hkr.out
      simp only [tl] at hk2
      rw [HXV.out] at hk2
      by_cases hz : x = 0
      · subst hz
        rw [if_pos rfl] at hk2
        have HK := Lib.hid hk2
        clear hk2
        have d2 : ((0 : Int) == 0) = true := rfl
        go_wp2
        go_round
        case rel => exact ⟨m, by omega, by go_num, HK⟩
        case measure => simp [intOf] <;> omega
      · rw [if_neg hz] at hk2
        have d2 : (x == 0) = false := beq_eq_false_iff_ne.2 hz
        subst hk2
        go_wp2
        go_ret
        exact ⟨rfl, rfl⟩
/-- the digits of a number below 2^32 -/
def Dig (W : World) (s : Value) (v : Nat) : Prop :=
  (v = 0 ∧ ∃ A c, s = .slice A 0 c ∧ c ≤ 1000000) ∨ (0 < v ∧ v < 4294967296 ∧ ∃ g c cells, s = .slice (some ⟨g, 0, none⟩) 1 c ∧ 1 ≤ c ∧ c ≤ 1000000 ∧ W.heap[g]? = some (.cells cells 92 (0, 0)) ∧ W.cell? ⟨g, 0, none⟩ = some (.int .u32 (v : Int)))
theorem cell_same {W W' : World} {p : Addr} (h : W'.heap[p.block]? = W.heap[p.block]?) : W'.cell? p = W.cell? p := by
  simp only [World.cell?, h]
theorem Dig.same {W W' : World} {s : Value} {v : Nat} (h : Dig W s v) (hk : ∀ (g : Nat) (cells : Array Value), W.heap[g]? = some (.cells cells 92 (0, 0)) → W'.heap[g]? = W.heap[g]?) : Dig W' s v := by
  rcases h with h | ⟨h1, h2, g, c, cells, h3, h4, h5, h6, h7⟩
  · exact .inl h
  · have e := hk g cells h6
    exact .inr ⟨h1, h2, g, c, cells, h3, h4, h5, e.trans h6, (cell_same (p := ⟨g, 0, none⟩) e).trans h7⟩
theorem Dig.below {W W' : World} {s : Value} {v : Nat} (h : Dig W s v) (hb : Below W.heap.size W W') : Dig W' s v :=
  h.same fun g _ hg => hb.block g (Array.getElem?_eq_some_iff.1 hg).1
theorem Dig.of_new {W : World} {g c : Nat} {cells : Array Value} (h : W.heap[g]? = some (.cells cells 92 (0, 0))) (hc : c ≤ 1000000) (h1 : 1 ≤ c) {v : Nat} (hv : v < 4294967296) (h0 : cells[0]? = some (.int .u32 (v : Int))) :
    Dig W (.slice (some ⟨g, 0, none⟩) (if v = 0 then 0 else 1) c) v := by
  split
  · rename_i e; exact .inl ⟨e, _, _, rfl, hc⟩
  · refine .inr ⟨by omega, hv, g, c, cells, rfl, h1, hc, h, ?_⟩
    simp [World.cell?, h, h0]
theorem tl_one (v : Nat) (xs : List Int) (h0 : xs.getD 0 0 = (v : Int)) (n : Nat) (hn : ∀ j, 1 ≤ j → j < n + 1 → xs.getD j 0 = 0) : tl xs (n + 1) = if v = 0 then 0 else 1 := by
  induction n with
  | zero =>
    simp only [tl]
    rw [h0]
    by_cases e : v = 0
    · rw [if_pos (by omega), if_pos e]
    · rw [if_neg (by omega), if_neg e]
  | succ n ih =>
    rw [tl, if_pos (hn (n + 1) (by omega) (by omega))]
    exact ih (fun j h1 h2 => hn j h1 (by omega))
theorem two_cells (v : Nat) (w : World) : ∀ j, j < 2 → (w.alloc (.cells #[.int .u32 (v : Int), .int .u32 0] 92)).cell? ⟨w.heap.size, j, none⟩ = some (.int .u32 ([(v : Int), 0].getD j 0)) := by
  intro j hj
  rw [World.cell?_alloc_at _ _ _ _ rfl]
  match j, hj with
  | 0, _ => rfl
  | 1, _ => rfl
set_option maxHeartbeats 400000 in
theorem of_walk (v : Nat) (hv : v < 4294967296) (w : World) :
    Calls Try.prog 78 #[.int .u64 (v : Int)] w fun e w' => ∃ s, e = .returned s ∧ Dig w' s v ∧ Below w.heap.size w w' := by
  have e1 : (v : Int) / 4294967296 = 0 := by omega
  have h0 := heap_alloc_new w (.cells #[.int .u32 (v : Int), .int .u32 0] 92)
  have HN := Lib.hid h0
  clear h0
  have hcells : ∀ j, j < 2 → (w.alloc (.cells #[.int .u32 (v : Int), .int .u32 0] 92)).cell? ⟨w.heap.size, j, none⟩ = some (.int .u32 ([(v : Int), 0].getD j 0)) := by
    intro j hj
    rw [World.cell?_alloc_at _ _ _ _ rfl]
    match j, hj with
    | 0, _ => rfl
    | 1, _ => rfl
  have HC := Lib.hid hcells
  clear hcells
  go_enter Try.func78, Try.ntmps78
  go_wp2_with (go_at_call 84; refine (trim_walk w.heap.size 2 2 [(v : Int), 0] _ HC.out (by omega) (by omega) (by omega)).mono ?_; rintro e w' ⟨rfl, rfl⟩)
  go_ret
  refine ⟨_, rfl, ?_, (Below.refl _ w).alloc (Nat.le_refl _) _⟩
  rw [tl_one v _ rfl 1 (fun j h1 h2 => by rw [show j = 1 by omega]; rfl)]
  exact Dig.of_new HN.out (by omega) (by omega) hv rfl
theorem mk92 (m : Nat) (hm : m ≤ 1000) (t : Value) (ht : t = .int .i64 (m : Int)) : ∀ W : World, (Instr.makeSlice 80 t t).run Try.prog W = .ok (.slice (some ⟨W.heap.size, 0, none⟩) m m) (W.alloc (.cells (madeCells #[.int .u32 0] m) 92)) := by
  subst ht
  exact print_make 80 92 .u32 4 Try.underlying80 (by kernel_rfl) (by omega) m (by omega)
theorem mk92_2 : ∀ W : World, (Instr.makeSlice 80 (.int .i64 2) (.int .i64 2)).run Try.prog W = .ok (.slice (some ⟨W.heap.size, 0, none⟩) 2 2) (W.alloc (.cells #[.int .u32 0, .int .u32 0] 92)) := by
  have h := mk92 2 (by omega) (.int .i64 2) rfl
  rwa [show madeCells #[Value.int .u32 0] 2 = #[.int .u32 0, .int .u32 0] by simp [madeCells, Array.ext_iff]; intro i h1 h2; rcases i with _ | _ | i <;> simp at h1 ⊢; omega] at h
theorem mk92_1 : ∀ W : World, (Instr.makeSlice 80 (.int .i64 1) (.int .i64 1)).run Try.prog W = .ok (.slice (some ⟨W.heap.size, 0, none⟩) 1 1) (W.alloc (.cells #[.int .u32 0] 92)) := by
  have h := mk92 1 (by omega) (.int .i64 1) rfl
  rwa [show madeCells #[Value.int .u32 0] 1 = #[.int .u32 0] by simp [madeCells, Array.ext_iff]] at h
set_option maxHeartbeats 400000 in
set_option maxRecDepth 100000 in
theorem plus11 (ga ca gb cb x y : Nat) (w : World) (hx : w.cell? ⟨ga, 0, none⟩ = some (.int .u32 (x : Int))) (hy : w.cell? ⟨gb, 0, none⟩ = some (.int .u32 (y : Int))) (hs : x + y < 4294967296) :
    Calls Try.prog 81 #[.slice (some ⟨ga, 0, none⟩) 1 ca, .slice (some ⟨gb, 0, none⟩) 1 cb] w fun e w' => ∃ s, e = .returned s ∧ Dig w' s (x + y) ∧ Below w.heap.size w w' := by
  have hmk := mk92_2
  have h0 := heap_alloc_new w (.cells #[.int .u32 ((x + y : Nat) : Int), .int .u32 0] 92)
  have HN := Lib.hid h0
  clear h0
  have h0 := two_cells (x + y) w
  have HC := Lib.hid h0
  clear h0
  have ga1 := World.block_lt_of_cell? w _ hx
  have gb1 := World.block_lt_of_cell? w _ hy
  simp only at ga1 gb1
  have hs2 : ((x : Int) + (y : Int)) / 4294967296 = 0 := by omega
  go_enter Try.func81, Try.ntmps81
  go_wp2
  refine wp_loop_rounds 2 ?_
  rw [rounds_succ]
  go_wp2
  rw [rounds_succ]
  go_wp2_with (go_at_call 84; refine (trim_walk w.heap.size 2 2 [((x + y : Nat) : Int), 0] _ HC.out (by omega) (by omega) (by omega)).mono ?_; rintro e w' ⟨rfl, rfl⟩)
  go_ret
  refine ⟨_, rfl, ?_, (Below.refl _ w).alloc (Nat.le_refl _) _⟩
  rw [tl_one (x + y) _ rfl 1 (fun j h1 h2 => by rw [show j = 1 by omega]; rfl)]
  exact Dig.of_new HN.out (by omega) (by omega) hs rfl
set_option maxHeartbeats 400000 in
set_option maxRecDepth 100000 in
theorem plus10 (ga ca : Nat) (B : Option Addr) (cb x : Nat) (w : World) (hx : w.cell? ⟨ga, 0, none⟩ = some (.int .u32 (x : Int))) (hs : x < 4294967296) :
    Calls Try.prog 81 #[.slice (some ⟨ga, 0, none⟩) 1 ca, .slice B 0 cb] w fun e w' => ∃ s, e = .returned s ∧ Dig w' s x ∧ Below w.heap.size w w' := by
  have hmk := mk92_2
  have h0 := heap_alloc_new w (.cells #[.int .u32 (x : Int), .int .u32 0] 92)
  have HN := Lib.hid h0
  clear h0
  have h0 := two_cells x w
  have HC := Lib.hid h0
  clear h0
  have ga1 := World.block_lt_of_cell? w _ hx
  simp only at ga1
  have hs2 : (x : Int) / 4294967296 = 0 := by omega
  go_enter Try.func81, Try.ntmps81
  go_wp2
  refine wp_loop_rounds 2 ?_
  rw [rounds_succ]
  go_wp2
  rw [rounds_succ]
  go_wp2_with (go_at_call 84; refine (trim_walk w.heap.size 2 2 [(x : Int), 0] _ HC.out (by omega) (by omega) (by omega)).mono ?_; rintro e w' ⟨rfl, rfl⟩)
  go_ret
  refine ⟨_, rfl, ?_, (Below.refl _ w).alloc (Nat.le_refl _) _⟩
  rw [tl_one x _ rfl 1 (fun j h1 h2 => by rw [show j = 1 by omega]; rfl)]
  exact Dig.of_new HN.out (by omega) (by omega) hs rfl
set_option maxHeartbeats 400000 in
set_option maxRecDepth 100000 in
theorem plus01 (ga ca : Nat) (B : Option Addr) (cb x : Nat) (w : World) (hx : w.cell? ⟨ga, 0, none⟩ = some (.int .u32 (x : Int))) (hs : x < 4294967296) :
    Calls Try.prog 81 #[.slice B 0 cb, .slice (some ⟨ga, 0, none⟩) 1 ca] w fun e w' => ∃ s, e = .returned s ∧ Dig w' s x ∧ Below w.heap.size w w' := by
  have hmk := mk92_2
  have h0 := heap_alloc_new w (.cells #[.int .u32 (x : Int), .int .u32 0] 92)
  have HN := Lib.hid h0
  clear h0
  have h0 := two_cells x w
  have HC := Lib.hid h0
  clear h0
  have ga1 := World.block_lt_of_cell? w _ hx
  simp only at ga1
  have hs2 : (x : Int) / 4294967296 = 0 := by omega
  go_enter Try.func81, Try.ntmps81
  go_wp2
  refine wp_loop_rounds 2 ?_
  rw [rounds_succ]
  go_wp2
  rw [rounds_succ]
  go_wp2_with (go_at_call 84; refine (trim_walk w.heap.size 2 2 [(x : Int), 0] _ HC.out (by omega) (by omega) (by omega)).mono ?_; rintro e w' ⟨rfl, rfl⟩)
  go_ret
  refine ⟨_, rfl, ?_, (Below.refl _ w).alloc (Nat.le_refl _) _⟩
  rw [tl_one x _ rfl 1 (fun j h1 h2 => by rw [show j = 1 by omega]; rfl)]
  exact Dig.of_new HN.out (by omega) (by omega) hs rfl
set_option maxHeartbeats 400000 in
set_option maxRecDepth 100000 in
theorem plus00 (A : Option Addr) (ca : Nat) (B : Option Addr) (cb : Nat) (w : World) :
    Calls Try.prog 81 #[.slice A 0 ca, .slice B 0 cb] w fun e w' => ∃ s, e = .returned s ∧ Dig w' s 0 ∧ Below w.heap.size w w' := by
  have hmk := mk92_1
  have h0 : ∀ j, j < 1 → (w.alloc (.cells #[.int .u32 0] 92)).cell? ⟨w.heap.size, j, none⟩ = some (.int .u32 (([0] : List Int).getD j 0)) := by
    intro j hj
    rw [World.cell?_alloc_at _ _ _ _ rfl]
    match j, hj with
    | 0, _ => rfl
  have HC := Lib.hid h0
  clear h0
  go_enter Try.func81, Try.ntmps81
  go_wp2
  refine wp_loop_rounds 1 ?_
  rw [rounds_succ]
  go_wp2_with (go_at_call 84; refine (trim_walk w.heap.size 1 1 [0] _ HC.out (by omega) (by omega) (by omega)).mono ?_; rintro e w' ⟨rfl, rfl⟩)
  go_ret
  refine ⟨_, rfl, .inl ⟨rfl, _, 1, rfl, by omega⟩, (Below.refl _ w).alloc (Nat.le_refl _) _⟩
theorem plus_walk {w : World} {s t : Value} {x y : Nat} (h : Dig w s x) (k : Dig w t y) (hs : x + y < 4294967296) :
    Calls Try.prog 81 #[s, t] w fun e w' => ∃ s, e = .returned s ∧ Dig w' s (x + y) ∧ Below w.heap.size w w' := by
  rcases h with ⟨rfl, A, c, rfl, _⟩ | ⟨h1, h2, g, c, cells, rfl, h4, h5, h6, h7⟩
  · rcases k with ⟨rfl, B, d, rfl, _⟩ | ⟨k1, k2, g, d, cells, rfl, k4, k5, k6, k7⟩
    · exact plus00 A c B d w
    · rw [Nat.zero_add]; exact plus01 g d A c y w k7 k2
  · rcases k with ⟨rfl, B, d, rfl, _⟩ | ⟨k1, k2, g', d, cells, rfl, k4, k5, k6, k7⟩
    · exact plus10 g c B d x w h7 h2
    · exact plus11 g c g' d x y w h7 k7 hs
set_option maxHeartbeats 400000 in
theorem small1 (g c x : Nat) (w : World) (hx : w.cell? ⟨g, 0, none⟩ = some (.int .u32 (x : Int))) (x1 : x < 4294967296) :
    Calls Try.prog 74 #[.slice (some ⟨g, 0, none⟩) 1 c] w fun e w' => e = .returned (.tuple #[.int .u64 (x : Int), .bool true]) ∧ w = w' := by
  go_enter Try.func74, Try.ntmps74
  go_wp2
  go_ret2
  exact ⟨rfl, rfl⟩
set_option maxHeartbeats 400000 in
theorem small0 (A : Option Addr) (c : Nat) (w : World) :
    Calls Try.prog 74 #[.slice A 0 c] w fun e w' => e = .returned (.tuple #[.int .u64 0, .bool true]) ∧ w = w' := by
  go_enter Try.func74, Try.ntmps74
  go_wp2
  go_ret2
  exact ⟨rfl, rfl⟩
theorem maskS (a : Nat) (ha : a < 4294967296) : bits .and .u64 (a : Int) 4294967295 = (a : Int) := by
  have h := bits_and_u64_nat a 4294967295 (by omega) (by omega)
  have e : a &&& 4294967295 = a % 4294967296 := Nat.and_two_pow_sub_one_eq_mod a 32
  rw [e, Nat.mod_eq_of_lt ha] at h
  exact h
theorem wrapS (a : Int) (h0 : 0 ≤ a) (ha : a < 4294967296) : IntKind.u64.wrap a = a := by rw [IntKind.wrap_u64]; omega
set_option maxHeartbeats 400000 in
set_option maxRecDepth 100000 in
theorem mul64 (x y : Nat) (w : World) (x1 : x < 4294967296) (y1 : y < 4294967296) (hs : x * y < 4294967296) :
    Calls Try.prog 85 #[.int .u64 (x : Int), .int .u64 (y : Int)] w fun e w' => e = .returned (.tuple #[.int .u64 0, .int .u64 ((x * y : Nat) : Int)]) ∧ w = w' := by
  have e0 : ((x * y : Nat) : Int) = (x : Int) * (y : Int) := Int.natCast_mul x y
  obtain ⟨z, hz⟩ : ∃ z : Int, (x : Int) * (y : Int) = z := ⟨_, rfl⟩
  have e1 : (x : Int) / 4294967296 = 0 := by omega
  have e2 : (y : Int) / 4294967296 = 0 := by omega
  have e3 : z / 4294967296 = 0 := by omega
  have e4 : IntKind.u64.wrap z = z := wrapS z (by omega) (by omega)
  have e5 := maskS x x1
  have e6 := maskS y y1
  have e7 : bits .and .u64 0 4294967295 = 0 := maskS 0 (by omega)
  have e8 : IntKind.u64.wrap 0 = 0 := wrapS 0 (by omega) (by omega)
  rw [e0, hz]
  clear e0 hs
  go_enter Try.func85, Try.ntmps85
  go_wp2
  go_ret2
  exact ⟨rfl, rfl⟩
theorem four_cells (v : Nat) (w : World) : ∀ j, j < 4 → (w.alloc (.cells #[.int .u32 (v : Int), .int .u32 0, .int .u32 0, .int .u32 0] 92)).cell? ⟨w.heap.size, j, none⟩ = some (.int .u32 ([(v : Int), 0, 0, 0].getD j 0)) := by
  intro j hj
  rw [World.cell?_alloc_at _ _ _ _ rfl]
  match j, hj with
  | 0, _ => rfl
  | 1, _ => rfl
  | 2, _ => rfl
  | 3, _ => rfl
/-- a number and the value that the walk of 'small' reads off its digits -/
theorem small_walk {w : World} {s : Value} {x : Nat} (h : Dig w s x) : Calls Try.prog 74 #[s] w fun e w' => e = .returned (.tuple #[.int .u64 (x : Int), .bool true]) ∧ w = w' := by
  rcases h with ⟨rfl, A, c, rfl, _⟩ | ⟨h1, h2, g, c, cells, rfl, h4, h5, h6, h7⟩
  · exact small0 A c w
  · exact small1 g c x w h7 h2
theorem Dig.lt {w : World} {s : Value} {x : Nat} (h : Dig w s x) : x < 4294967296 := by
  rcases h with ⟨rfl, _⟩ | ⟨_, h2, _⟩
  · omega
  · exact h2
set_option maxHeartbeats 400000 in
set_option maxRecDepth 100000 in
theorem times_walk {w : World} {s t : Value} {x y : Nat} (h : Dig w s x) (k : Dig w t y) (hs : x * y < 4294967296) :
    Calls Try.prog 80 #[s, t] w fun e w' => ∃ s, e = .returned s ∧ Dig w' s (x * y) ∧ Below w.heap.size w w' := by
  have x1 := h.lt
  have y1 := k.lt
  obtain ⟨z, hz⟩ : ∃ z, x * y = z := ⟨_, rfl⟩
  have HM := mul64 x y w x1 y1 hs
  rw [hz] at HM hs ⊢
  clear hz
  have HS := Lib.hid h
  have HT := Lib.hid k
  clear h k
  have e1 : (z : Int) / 4294967296 = 0 := by omega
  have h0 := heap_alloc_new w (.cells #[.int .u32 (z : Int), .int .u32 0, .int .u32 0, .int .u32 0] 92)
  have HN := Lib.hid h0
  clear h0
  have h0 := four_cells z w
  have HC := Lib.hid h0
  clear h0
  go_enter Try.func80, Try.ntmps80
  go_wp2_with (first | (go_at_call 74; with_reducible refine (small_walk HS.out).mono ?_; rintro e w' ⟨rfl, rfl⟩) | (go_at_call 74; with_reducible refine (small_walk HT.out).mono ?_; rintro e w' ⟨rfl, rfl⟩) | (go_at_call 85; refine HM.mono ?_; rintro e w' ⟨rfl, rfl⟩) | (go_at_call 84; refine (trim_walk w.heap.size 4 4 [(z : Int), 0, 0, 0] _ HC.out (by omega) (by omega) (by omega)).mono ?_; rintro e w' ⟨rfl, rfl⟩))
  go_ret
  refine ⟨_, rfl, ?_, (Below.refl _ w).alloc (Nat.le_refl _) _⟩
  rw [tl_one z _ rfl 3 (fun j h1 h2 => by have : j = 1 ∨ j = 2 ∨ j = 3 := by omega
                                          rcases this with rfl | rfl | rfl <;> rfl)]
  exact Dig.of_new HN.out (by omega) (by omega) hs rfl
end Go.Proofs.Ytfopeenjpdaacaa.PC
end
section
/- Numbers of the program's big package below 2^32: contracts of the methods over them. -/
namespace Go.Proofs.Ytfopeenjpdaacaa.PC
open Go.RowKit Go.Proofs.YtfopeenjpdaacaaW.PrintWords Go.Proofs.YtfopeenjpdaacaaW.PrintLast Go.Proofs.YtfopeenjpdaacaaW.PrintMore
/-- a number behind a pointer -/
def Num (W : World) (p v : Nat) : Prop := ∃ s, W.heap[p]? = some (.cells #[.bool false, s] 82 (0, 0)) ∧ Dig W s v
/-- a block of a number, whatever it holds -/
def Slot (W : World) (p : Nat) : Prop := ∃ b s, W.heap[p]? = some (.cells #[b, s] 82 (0, 0))
theorem Num.slot {W : World} {p v : Nat} (h : Num W p v) : Slot W p := by obtain ⟨s, h, _⟩ := h; exact ⟨_, _, h⟩
theorem Num.lt {W : World} {p v : Nat} (h : Num W p v) : p < W.heap.size := by obtain ⟨s, h, _⟩ := h; exact (Array.getElem?_eq_some_iff.1 h).1
theorem Slot.lt {W : World} {p : Nat} (h : Slot W p) : p < W.heap.size := by obtain ⟨b, s, h⟩ := h; exact (Array.getElem?_eq_some_iff.1 h).1
theorem Dig.grown {W W' : World} {s : Value} {v p : Nat} (h : Dig W s v) (hs : Slot W p) (hg : W.grownBy W' (some p)) : Dig W' s v :=
  h.same fun g cells hc => hg.block g (Array.getElem?_eq_some_iff.1 hc).1 (by
    rintro e
    cases e
    obtain ⟨b, s', hs⟩ := hs
    rw [hc] at hs
    injection hs with hs
    injection hs with _ h2
    cases h2)
theorem Num.grown {W W' : World} {q v p : Nat} (h : Num W q v) (hs : Slot W p) (hne : q ≠ p) (hg : W.grownBy W' (some p)) : Num W' q v := by
  obtain ⟨s, h1, h2⟩ := h
  exact ⟨s, (hg.block q (Array.getElem?_eq_some_iff.1 h1).1 (by rintro e; cases e; exact hne rfl)).trans h1, h2.grown hs hg⟩
theorem Num.below {W W' : World} {q v : Nat} (h : Num W q v) (hb : Below W.heap.size W W') : Num W' q v := by
  obtain ⟨s, h1, h2⟩ := h
  exact ⟨s, (hb.block q (Array.getElem?_eq_some_iff.1 h1).1).trans h1, h2.below hb⟩
theorem Slot.below {W W' : World} {q : Nat} (h : Slot W q) (hb : Below W.heap.size W W') : Slot W' q := by
  obtain ⟨b, s, h1⟩ := h
  exact ⟨b, s, (hb.block q (Array.getElem?_eq_some_iff.1 h1).1).trans h1⟩
theorem Dig.form {W : World} {s : Value} {v : Nat} (h : Dig W s v) : ∃ A n c, s = .slice A n c := by
  rcases h with ⟨_, A, c, rfl, _⟩ | ⟨_, _, g, c, cells, rfl, _⟩
  · exact ⟨_, _, _, rfl⟩
  · exact ⟨_, _, _, rfl⟩
theorem heap_set {w : World} {p i : Nat} {cs : Array Value} {t : TypeId} {fr : Nat × Nat} (h : w.heap[p]? = some (.cells cs t fr)) (v : Value) : (w.setCell ⟨p, i, none⟩ v).heap[p]? = some (.cells (cs.setIfInBounds i v) t fr) := by
  show (w.heap.modify p _)[p]? = _
  rw [Array.getElem?_modify, if_pos rfl, h]
  rfl
theorem grown_set (w : World) (b i : Nat) (v : Value) : w.grownBy (w.setCell ⟨b, i, none⟩ v) (some b) :=
  ⟨rfl, rfl, rfl, by show w.heap.size ≤ (w.heap.modify b _).size; rw [Array.size_modify]; exact Nat.le_refl _, fun j _ hj => Below.heap_setCell w _ v j (fun e => hj (by rw [e]))⟩
set_option maxHeartbeats 400000 in
theorem set_walk (p : Nat) (A : Option Addr) (n c : Nat) (b0 s0 : Value) (w : World) (hp : w.heap[p]? = some (.cells #[b0, s0] 82 (0, 0))) :
    Calls Try.prog 79 #[.pointer (some ⟨p, 0, none⟩), .bool false, .slice A n c] w fun e w' => e = .returned (.pointer (some ⟨p, 0, none⟩)) ∧ w'.heap[p]? = some (.cells #[.bool false, .slice A n c] 82 (0, 0)) ∧ w.grownBy w' (some p) := by
  have c0 : w.cell? ⟨p, 0, none⟩ = some b0 := by simp [World.cell?, hp]
  have c1 : w.cell? ⟨p, 1, none⟩ = some s0 := by simp [World.cell?, hp]
  have f0 : w.frozen? ⟨p, 0, none⟩ = false := by simp [World.frozen?, hp]
  have f1 : w.frozen? ⟨p, 1, none⟩ = false := by simp [World.frozen?, hp]
  have HP := Lib.hid hp
  clear hp
  go_enter Try.func79, Try.ntmps79
  go_wp2
  go_ret
  exact ⟨rfl, heap_set (heap_set HP.out _) _, (grown_set _ _ _ _).trans (grown_set _ _ _ _)⟩
set_option maxHeartbeats 400000 in
theorem NewInt_walk (v : Nat) (hv : v < 4294967296) (w : World) :
    Calls Try.prog 70 #[.int .i64 (v : Int)] w fun e w' => ∃ p, e = .returned (.pointer (some ⟨p, 0, none⟩)) ∧ w.heap.size ≤ p ∧ Num w' p v ∧ Below w.heap.size w w' := by
  have d1 : decide ((v : Int) < 0) = false := decide_eq_false (by omega)
  go_enter Try.func70, Try.ntmps70
  go_wp2_with (go_at_call 78; refine (of_walk v hv _).mono ?_; rintro e w' ⟨s, rfl, hd, hb⟩; obtain ⟨A1, n1, c1, rfl⟩ := hd.form; have HD := Lib.hid hd; have HB := Lib.hid hb; clear hd hb)
  go_ret
  have hb := HB.out
  exact ⟨_, rfl, hb.size, ⟨_, heap_alloc_new _ _, HD.out.below ((Below.refl _ _).alloc (Nat.le_refl _) _)⟩, hb.alloc hb.size _⟩
/-- what the walk of a method over numbers reads, in every world on the way -/
structure Reads2 (w : World) (z a b : Nat) (sa sb : Value) (w' : World) : Prop where
  a0 : w'.cell? ⟨a, 0, none⟩ = some (.bool false)
  a1 : w'.cell? ⟨a, 1, none⟩ = some sa
  b0 : w'.cell? ⟨b, 0, none⟩ = some (.bool false)
  b1 : w'.cell? ⟨b, 1, none⟩ = some sb
theorem Reads2.of {w w' : World} {z a b : Nat} {sa sb : Value} (ha : w.heap[a]? = some (.cells #[.bool false, sa] 82 (0, 0))) (hb : w.heap[b]? = some (.cells #[.bool false, sb] 82 (0, 0))) (hza : a ≠ z) (hzb : b ≠ z) (hg : w.grownBy w' (some z)) : Reads2 w z a b sa sb w' := by
  have e1 := (hg.block a (Array.getElem?_eq_some_iff.1 ha).1 (by rintro e; cases e; exact hza rfl)).trans ha
  have e2 := (hg.block b (Array.getElem?_eq_some_iff.1 hb).1 (by rintro e; cases e; exact hzb rfl)).trans hb
  exact ⟨by simp [World.cell?, e1], by simp [World.cell?, e1], by simp [World.cell?, e2], by simp [World.cell?, e2]⟩
theorem reads_all {w w' : World} {z a b : Nat} {sa sb : Value} (h : ∀ w' : World, w.grownBy w' (some z) → Reads2 w z a b sa sb w') (hg : w.grownBy w' (some z)) :
    w'.cell? ⟨a, 0, none⟩ = some (.bool false) ∧ w'.cell? ⟨a, 1, none⟩ = some sa ∧ w'.cell? ⟨b, 0, none⟩ = some (.bool false) ∧ w'.cell? ⟨b, 1, none⟩ = some sb ∧ w.grownBy w' (some z) :=
  ⟨(h w' hg).a0, (h w' hg).a1, (h w' hg).b0, (h w' hg).b1, hg⟩
theorem grown_below {w w1 w2 : World} {row : Option Nat} (h : w.grownBy w1 row) (hb : Below w1.heap.size w1 w2) : w.grownBy w2 row := h.trans (grown_of_below hb row)
theorem Slot.later {w w2 : World} {p : Nat} (h : Slot w p) (hb : Below w.drew.heap.size w.drew w2) : Slot w2 p := Slot.below (W := w.drew) h hb
set_option maxHeartbeats 1000000 in
theorem Mul_walk (z a b x y : Nat) (w : World) (hz : Slot w z) (ha : Num w a x) (hb : Num w b y) (hza : a ≠ z) (hzb : b ≠ z) (hs : x * y < 4294967296) :
    Calls Try.prog 72 #[.pointer (some ⟨z, 0, none⟩), .pointer (some ⟨a, 0, none⟩), .pointer (some ⟨b, 0, none⟩)] w fun e w' => e = .returned (.pointer (some ⟨z, 0, none⟩)) ∧ Num w' z (x * y) ∧ w.grownBy w' (some z) := by
  obtain ⟨sa, ha, da⟩ := ha
  obtain ⟨sb, hb, db⟩ := hb
  have HR := Lib.hid (fun (w' : World) => Reads2.of (w := w) (w' := w') ha hb hza hzb)
  have HR2 := HR
  have HA := Lib.hid da
  have HB := Lib.hid db
  have HZ := Lib.hid hz
  have h0 := HR.out w (World.grownBy.refl w _)
  have a0 := h0.a0
  have a1 := h0.a1
  have b0 := h0.b0
  have b1 := h0.b1
  have hgd : w.grownBy w.drew (some z) := ⟨rfl, rfl, rfl, Nat.le_refl _, fun _ _ _ => rfl⟩
  clear ha hb da db hz h0 hza hzb
  go_enter Try.func72, Try.ntmps72
  go_wp2_with fail
  go_region_held3 (fun w' => w'.cell? ⟨a, 0, none⟩ = some (.bool false) ∧ w'.cell? ⟨a, 1, none⟩ = some sa ∧ w'.cell? ⟨b, 0, none⟩ = some (.bool false) ∧ w'.cell? ⟨b, 1, none⟩ = some sb ∧ w.grownBy w' (some z))
    (first | exact ⟨a0, a1, b0, b1, hgd⟩ | exact reads_all HR2.out hgE | exact reads_all HR2.out hgF)
    (first | (go_at_call 80; refine (times_walk (HA.out.grown HZ.out hgd) (HB.out.grown HZ.out hgd) hs).mono ?_; rintro e w' ⟨s, rfl, hd, hb⟩; obtain ⟨A1, n1, c1, rfl⟩ := hd.form; have hgE := grown_below hgd hb; have hz1 := HZ.out.later hb; have HD := Lib.hid hd; clear hd hb)
           | (go_at_call 79; obtain ⟨q0, q1, hq⟩ := hz1; refine (set_walk z A1 n1 c1 q0 q1 _ hq).mono ?_; rintro e w' ⟨rfl, hp, hgN⟩; have hgF := hgE.trans hgN))
  go_wp2
  go_ret
  exact ⟨rfl, ⟨_, hp, HD.out.grown ⟨_, _, hq⟩ hgN⟩, hgF⟩
theorem block_lt' {w : World} {p : Nat} {o : Obj} (h : w.heap[p]? = some o) : p < w.heap.size := (Array.getElem?_eq_some_iff.1 h).1
theorem cell_of {w : World} {p : Nat} {x y : Value} {t : TypeId} {fr : Nat × Nat} (h : w.heap[p]? = some (.cells #[x, y] t fr)) (_n : Nat) : w.cell? ⟨p, 0, none⟩ = some x := by simp [World.cell?, h]
set_option maxRecDepth 100000 in
set_option maxHeartbeats 1000000 in
theorem Add_walk (z b x y : Nat) (w : World) (hz : Num w z x) (hb : Num w b y) (hzb : b ≠ z) (hs : x + y < 4294967296) :
    Calls Try.prog 73 #[.pointer (some ⟨z, 0, none⟩), .pointer (some ⟨z, 0, none⟩), .pointer (some ⟨b, 0, none⟩)] w fun e w' => e = .returned (.pointer (some ⟨z, 0, none⟩)) ∧ Num w' z (x + y) ∧ w.grownBy w' (some z) := by
  obtain ⟨sa, ha, da⟩ := hz
  obtain ⟨sb, hb, db⟩ := hb
  have a0 : w.cell? ⟨z, 0, none⟩ = some (.bool false) := by simp [World.cell?, ha]
  have a1 : w.cell? ⟨z, 1, none⟩ = some sa := by simp [World.cell?, ha]
  have b0 : w.cell? ⟨b, 0, none⟩ = some (.bool false) := by simp [World.cell?, hb]
  have b1 : w.cell? ⟨b, 1, none⟩ = some sb := by simp [World.cell?, hb]
  have HA := Lib.hid da
  have HB := Lib.hid db
  have HZ := Lib.hid ha
  have HS := Lib.hid hs
  have hb2 : ∀ w' : World, w.grownBy w' (some z) → w'.cell? ⟨b, 0, none⟩ = some (.bool false) ∧ w'.cell? ⟨b, 1, none⟩ = some sb := fun w' hg => by
    have e2 := (hg.block b (Array.getElem?_eq_some_iff.1 hb).1 (by rintro e; cases e; exact hzb rfl)).trans hb
    exact ⟨by simp [World.cell?, e2], by simp [World.cell?, e2]⟩
  have HW := Lib.hid hb2
  clear ha hb da db hzb hs hb2
  go_enter Try.func73, Try.ntmps73
  go_wp2_with fail
  go_quiet (fail)
  go_wp2_with fail
  have hgd : w.grownBy (w.drewN nq).drew (some z) := ⟨rfl, rfl, rfl, Nat.le_refl _, fun _ _ _ => rfl⟩
  go_region_with (first | (go_at_call 81; refine (plus_walk (HA.out.grown ⟨_, _, HZ.out⟩ hgd) (HB.out.grown ⟨_, _, HZ.out⟩ hgd) HS.out).mono ?_; rintro e w' ⟨s, rfl, hd, hb⟩; obtain ⟨A1, n1, c1, rfl⟩ := hd.form; have hgE := grown_below hgd hb; have hz1 := (hb.block z (block_lt' HZ.out)).trans HZ.out; have hzE := cell_of hz1 0; have HD := Lib.hid hd; have HZ1 := Lib.hid hz1; have HGE := Lib.hid hgE; clear hd hb hz1 hgE) | (go_at_call 79; refine (set_walk z A1 n1 c1 _ _ _ HZ1.out).mono ?_; rintro e w' ⟨rfl, hp, hgN⟩; have HP := Lib.hid hp; have HGN := Lib.hid hgN; clear hp hgN))
  all_goals go_wp2
  all_goals go_ret
  all_goals exact ⟨rfl, ⟨_, HP.out, HD.out.grown ⟨_, _, HZ1.out⟩ HGN.out⟩, HGE.out.trans HGN.out⟩
set_option maxRecDepth 100000 in
set_option maxHeartbeats 1000000 in
theorem Int64_walk (p v : Nat) (w : World) (h : Num w p v) :
    Calls Try.prog 57 #[.pointer (some ⟨p, 0, none⟩)] w fun e w' => e = .returned (.int .i64 (v : Int)) ∧ Drawn0 w w' := by
  obtain ⟨s, hp, hd⟩ := h
  have a0 := cell_of hp 0
  have a1 : w.cell? ⟨p, 1, none⟩ = some s := by simp [World.cell?, hp]
  clear hp
  rcases hd with ⟨rfl, A, c, rfl, hc⟩ | ⟨h1, h2, g, c, cells, rfl, h4, h5, h6, h7⟩
  · go_enter Try.func57, Try.ntmps57
    go_wp2_with fail
    go_quiet ((go_at_call 74; exact Calls.quiet_of_same ((small0 A c _).mono (fun _ _ h => ⟨h.1, h.2.symm⟩))))
    go_wp2
    go_ret
    exact ⟨rfl, ⟨⟨_, rfl⟩⟩⟩
  · have hsm : ∀ nd : Nat, Calls Try.prog 74 #[.slice (some ⟨g, 0, none⟩) 1 c] (w.drewN nd) fun e w' => e = .returned (.tuple #[.int .u64 (v : Int), .bool true]) ∧ w' = w.drewN nd := fun nd => (small1 g c v (w.drewN nd) h7 h2).mono fun _ _ h => ⟨h.1, h.2.symm⟩
    have HSm := Lib.hid hsm
    clear h7 h6 hsm
    have hc1 : (1 : Int) ≤ (c : Int) := by omega
    have hc2 : (c : Int) ≤ 9223372036854775807 := by omega
    go_enter Try.func57, Try.ntmps57
    go_wp2_with fail
    go_quiet ((go_at_call 74; exact Calls.quiet_of_same (HSm.out _)))
    go_wp2
    go_ret
    exact ⟨rfl, ⟨⟨_, rfl⟩⟩⟩
end Go.Proofs.Ytfopeenjpdaacaa.PC
end
section
/- Rows of pointers to numbers, and what adds to them: the plain side and the memory side. -/
namespace Go.Proofs.Ytfopeenjpdaacaa.PC
open Go.RowKit Go.Proofs.YtfopeenjpdaacaaW.PrintWords Go.Proofs.YtfopeenjpdaacaaW.PrintLast Go.Proofs.YtfopeenjpdaacaaW.PrintMore
def ptr (p : Nat) : Value := .pointer (some ⟨p, 0, none⟩)
/-- a row of pointers -/
def PRow (W : World) (q : Nat) (ps : List Nat) : Prop := W.heap[q]? = some (.cells (ps.map ptr).toArray 66 (0, 0))
/-- a row of numbers -/
structure NRow (W : World) (q : Nat) (ps vs : List Nat) : Prop where
  row : PRow W q ps
  len : ps.length = vs.length
  num : ∀ i, i < vs.length → Num W (ps.getD i 0) (vs.getD i 0)
def RowV (W : World) (v : Value) (vs : List Nat) : Prop := ∃ q ps, v = .slice (some ⟨q, 0, none⟩) vs.length vs.length ∧ NRow W q ps vs
theorem PRow.below {W W' : World} {q : Nat} {ps : List Nat} (h : PRow W q ps) {n : Nat} (hb : Below n W W') (hq : q < n) : PRow W' q ps := (hb.block q hq).trans h
theorem PRow.lt {W : World} {q : Nat} {ps : List Nat} (h : PRow W q ps) : q < W.heap.size := (Array.getElem?_eq_some_iff.1 h).1
theorem PRow.cell {W : World} {q : Nat} {ps : List Nat} (h : PRow W q ps) (i : Nat) (hi : i < ps.length) : W.cell? ⟨q, i, none⟩ = some (.pointer (some ⟨ps.getD i 0, 0, none⟩)) := by
  have h' : W.heap[q]? = _ := h
  simp [World.cell?, h', hi, ptr, List.getD_eq_getElem?_getD]
theorem NRow.below {W W' : World} {q : Nat} {ps vs : List Nat} (h : NRow W q ps vs) (hb : Below W.heap.size W W') : NRow W' q ps vs :=
  ⟨h.row.below hb h.row.lt, h.len, fun i hi => (h.num i hi).below hb⟩
theorem RowV.below {W W' : World} {v : Value} {vs : List Nat} (h : RowV W v vs) (hb : Below W.heap.size W W') : RowV W' v vs := by
  obtain ⟨q, ps, e, h⟩ := h
  exact ⟨q, ps, e, h.below hb⟩
/-- what the iterator does to the world: it makes blocks, or writes a row of pointers or a number -/
def Stp (B0 : Nat) (A B : World) : Prop := ∃ row, A.grownBy B row ∧ ∀ r, row = some r → B0 ≤ r ∧ ∃ cells t, A.heap[r]? = some (.cells cells t (0, 0)) ∧ (t = 65 ∨ t = 66 ∨ t = 82)
theorem Stp.of_below {B0 : Nat} {A B : World} (h : Below A.heap.size A B) : Stp B0 A B := ⟨none, grown_of_below h none, fun r e => by cases e⟩
theorem Stp.of_num {B0 : Nat} {A B : World} {p : Nat} (hp : Slot A p) (hB : B0 ≤ p) (h : A.grownBy B (some p)) : Stp B0 A B := ⟨some p, h, fun r e => by
  cases e
  obtain ⟨b, s, hp⟩ := hp
  exact ⟨hB, _, _, hp, .inr (.inr rfl)⟩⟩
/-- the state of a round: all that lay below H is as it was in Wr, the row that is being made, and what the caller keeps -/
structure RSt (J : World → Prop) (Wr : World) (q : Nat) (ps vs : List Nat) (W : World) : Prop where
  below : Below Wr.heap.size Wr W
  row : NRow W q ps vs
  nodup : ps.Nodup
  hq : Wr.heap.size ≤ q
  hp : ∀ p ∈ ps, Wr.heap.size ≤ p
  j : J W
def Stable (B0 : Nat) (J : World → Prop) : Prop := ∀ A B, J A → Stp B0 A B → J B
theorem RSt.later {B0 : Nat} {J : World → Prop} (hJ : Stable B0 J) {Wr W W' : World} {q : Nat} {ps vs : List Nat} (h : RSt J Wr q ps vs W) (hb : Below W.heap.size W W') : RSt J Wr q ps vs W' :=
  ⟨h.below.trans (hb.mono h.below.size), h.row.below hb, h.nodup, h.hq, h.hp, hJ _ _ h.j (.of_below hb)⟩
theorem getD_mem {l : List Nat} {i : Nat} (h : i < l.length) : l.getD i 0 ∈ l := by simp [List.getD_eq_getElem?_getD, h]
theorem RSt.add {B0 : Nat} {J : World → Prop} (hJ : Stable B0 J) {Wr W W' : World} (hB0 : B0 ≤ Wr.heap.size) {q : Nat} {ps vs : List Nat} (h : RSt J Wr q ps vs W) {i v : Nat} (hi : i < vs.length) (hg : W.grownBy W' (some (ps.getD i 0))) (hn : Num W' (ps.getD i 0) v) : RSt J Wr q ps (vs.set i v) W' := by
  have hs := (h.row.num i hi).slot
  have hi' : i < ps.length := by rw [h.row.len]; exact hi
  have hpi := h.hp _ (getD_mem hi')
  refine ⟨⟨hg.os.trans h.below.os, hg.tape.trans h.below.tape, hg.output.trans h.below.output, Nat.le_trans h.below.size hg.size, fun b hb => ?_⟩, ⟨?_, by rw [List.length_set]; exact h.row.len, fun j hj => ?_⟩, h.nodup, h.hq, h.hp, hJ _ _ h.j (.of_num hs (Nat.le_trans hB0 hpi) hg)⟩
  · refine (hg.block b (by have := h.below.size; omega) (by rintro e; cases e; omega)).trans (h.below.block b hb)
  · have hr : W.heap[q]? = _ := h.row.row
    refine (hg.block q h.row.row.lt ?_).trans hr
    rintro e
    injection e with e
    obtain ⟨b, s, hs⟩ := hs
    rw [← e, hr] at hs
    injection hs with hs
    injection hs with _ h2
    cases h2
  · rw [List.length_set] at hj
    by_cases e : j = i
    · subst e
      rw [show (vs.set j v).getD j 0 = v by simp [List.getD_eq_getElem?_getD, hj]]
      exact hn
    · rw [show (vs.set i v).getD j 0 = vs.getD j 0 by simp [List.getD_eq_getElem?_getD, List.getElem?_set_ne (Ne.symm e)]]
      refine (h.row.num j hj).grown hs (fun e2 => e ?_) hg
      have hj' : j < ps.length := by rw [h.row.len]; exact hj
      simp only [List.getD_eq_getElem?_getD, List.getElem?_eq_getElem hj', List.getElem?_eq_getElem hi', Option.getD_some] at e2
      exact (List.getElem_inj h.nodup).1 e2
end Go.Proofs.Ytfopeenjpdaacaa.PC
end
section
/- The rows of numbers that the iterator makes: how many good lists there are for each distance; plain. -/
namespace Go.Proofs.Ytfopeenjpdaacaa.PC
/-- the number of ways to choose i of n -/
def chairs_Spread.ch (n : Nat) : Nat → Nat
  | 0 => 1
  | i + 1 => chairs_Spread.ch n i * (n - i) / (i + 1)
/-- v is added to `many` places from i on -/
def chairs_Spread.adds (v : Nat) : Nat → Nat → List Nat → List Nat
  | 0, _, out => out
  | m + 1, i, out => chairs_Spread.adds v m (i + 1) (out.set i (out.getD i 0 + v))
/-- all pairs of distances of those before a chair and those after it -/
def chairs_Spread.ys (v m a : Nat) : List Nat → Nat → List Nat → List Nat
  | [], _, out => out
  | y :: r, b, out => chairs_Spread.ys v m a r (b + 1) (chairs_Spread.adds (v * y) m (a + b) out)
def chairs_Spread.xs (v m : Nat) (after : List Nat) : List Nat → Nat → List Nat → List Nat
  | [], _, out => out
  | x :: r, a, out => chairs_Spread.xs v m after r (a + 1) (chairs_Spread.ys (v * x) m a after 0 out)
def chairs_Spread.befs (known : List (List Nat)) (size : Nat) : Nat → Nat → List Nat → List Nat
  | 0, _, out => out
  | d + 1, before, out => chairs_Spread.befs known size d (before + 1) (chairs_Spread.xs (chairs_Spread.ch (size - 1) before) (before + 1) (known.getD (size - 1 - before) []) (known.getD before []) 0 out)
def chairs_Spread.row (known : List (List Nat)) (size : Nat) : List Nat :=
  chairs_Spread.befs known size size 0 (List.replicate (size * (size - 1) / 2 + 1) 0)
def chairs_Spread.known : Nat → List (List Nat)
  | 0 => [[1]]
  | n + 1 => chairs_Spread.known n ++ [chairs_Spread.row (chairs_Spread.known n) (n + 1)]
namespace MSpread
open chairs_Spread
/-- the one row is at most the other one, place by place -/
def Le2 (a b : List Nat) : Prop := a.length = b.length ∧ ∀ i, a.getD i 0 ≤ b.getD i 0
theorem Le2.refl (a : List Nat) : Le2 a a := ⟨rfl, fun _ => Nat.le_refl _⟩
theorem Le2.trans {a b c : List Nat} (h : Le2 a b) (k : Le2 b c) : Le2 a c := ⟨h.1.trans k.1, fun i => Nat.le_trans (h.2 i) (k.2 i)⟩
theorem set_le (out : List Nat) (i v : Nat) : Le2 out (out.set i (out.getD i 0 + v)) := by
  refine ⟨by simp, fun j => ?_⟩
  by_cases e : j = i
  · subst e
    by_cases hj : j < out.length
    · simp [List.getD_eq_getElem?_getD, hj]
    · simp [List.getD_eq_getElem?_getD, hj]
  · simp [List.getD_eq_getElem?_getD, List.getElem?_set_ne (Ne.symm e)]
theorem adds_le (v m : Nat) : ∀ (i : Nat) (out : List Nat), Le2 out (adds v m i out) := by
  induction m with
  | zero => exact fun _ out => Le2.refl out
  | succ m ih => exact fun i out => (set_le out i v).trans (ih _ _)
theorem adds_ge (v m i : Nat) (out : List Nat) (hi : i < out.length) : v ≤ (adds v (m + 1) i out).getD i 0 := by
  have h := (adds_le v m (i + 1) (out.set i (out.getD i 0 + v))).2 i
  rw [show (out.set i (out.getD i 0 + v)).getD i 0 = out.getD i 0 + v by simp [List.getD_eq_getElem?_getD, hi]] at h
  exact Nat.le_trans (Nat.le_add_left _ _) h
theorem ys_le (v m a : Nat) (l : List Nat) : ∀ (b : Nat) (out : List Nat), Le2 out (ys v m a l b out) := by
  induction l with
  | nil => exact fun _ out => Le2.refl out
  | cons y l ih => exact fun b out => (adds_le _ _ _ _).trans (ih _ _)
theorem xs_le (v m : Nat) (after l : List Nat) : ∀ (a : Nat) (out : List Nat), Le2 out (xs v m after l a out) := by
  induction l with
  | nil => exact fun _ out => Le2.refl out
  | cons y l ih => exact fun b out => (ys_le _ _ _ _ _ _).trans (ih _ _)
theorem befs_le (known : List (List Nat)) (size d : Nat) : ∀ (before : Nat) (out : List Nat), Le2 out (befs known size d before out) := by
  induction d with
  | zero => exact fun _ out => Le2.refl out
  | succ d ih => exact fun b out => (xs_le _ _ _ _ _ _).trans (ih _ _)
theorem known_length (n : Nat) : (known n).length = n + 1 := by
  induction n with
  | zero => rfl
  | succ n ih => simp [known, ih]
/-- the rows that the program makes, all of them -/
def lit : List (List Nat) := [[1], [1], [2, 1], [6, 6, 3, 1], [24, 36, 30, 20, 10, 4, 1], [120, 240, 270, 240, 180, 120, 70, 35, 15, 5, 1], [720, 1800, 2520, 2730, 2520, 2100, 1610, 1140, 750, 455, 252, 126, 56, 21, 6, 1], [5040, 15120, 25200, 31920, 34230, 32970, 29400, 24640, 19600, 14840, 10696, 7336, 4781, 2947, 1708, 924, 462, 210, 84, 28, 7, 1], [40320, 141120, 272160, 393120, 476280, 514080, 511560, 478800, 427140, 365960, 302344, 241416, 186522, 139440, 100800, 70392, 47418, 30744, 19124, 11368, 6426, 3432, 1716, 792, 330, 120, 36, 8, 1], [362880, 1451520, 3175200, 5140800, 6917400, 8225280, 8961120, 9147600, 8883000, 8288700, 7480620, 6558300, 5600910, 4667040, 3797640, 3018960, 2344860, 1779120, 1317960, 952560, 671076, 460284, 306900, 198540, 124320, 75132, 43668, 24300, 12870, 6435, 3003, 1287, 495, 165, 45, 9, 1], [3628800, 16329600, 39916800, 71517600, 105613200, 136798200, 161330400, 177408000, 184892400, 184707600, 178295040, 167246100, 153072360, 137082330, 120346380, 103705140, 87789240, 73042200, 59745840, 48048000, 37988412, 29522790, 22545720, 16911720, 12453540, 8996922, 6371640, 4419360, 2998710, 1987920, 1285482, 809325, 495000, 293325, 167850, 92367, 48620, 24310, 11440, 5005, 2002, 715, 220, 55, 10, 1]]
set_option maxRecDepth 1000000 in
theorem known_lit : known 10 = lit := by decide +kernel
theorem known_take (n k : Nat) : (known (n + k)).take (n + 1) = known n := by
  induction k with
  | zero => exact List.take_of_length_le (by rw [known_length]; exact Nat.le_refl _)
  | succ k ih =>
    show (known (n + k) ++ _).take (n + 1) = _
    rw [List.take_append_of_le_length (by rw [known_length]; omega)]
    exact ih
theorem known_of {n : Nat} (h : n ≤ 10) : known n = lit.take (n + 1) := by
  rw [← known_lit, ← known_take n (10 - n), show n + (10 - n) = 10 by omega]
theorem row_of {n : Nat} (h : n < 10) : row (known n) (n + 1) = lit.getD (n + 1) [] := by
  have h1 : known (n + 1) = lit.take (n + 2) := known_of (by omega)
  have h2 : (known (n + 1)).getD (n + 1) [] = row (known n) (n + 1) := by
    have := known_length n
    simp [known, List.getD_eq_getElem?_getD, ← this]
  rw [← h2, h1]
  simp [List.getD_eq_getElem?_getD]
theorem all_small {n : Nat} (h : n < 10) : ∀ x ∈ row (known n) (n + 1), x < 4294967296 := by
  rw [row_of h]
  exact (by decide +kernel : ∀ n, n < 10 → ∀ x ∈ lit.getD (n + 1) [], x < 4294967296) n h
theorem all_len {n : Nat} (h : n < 11) : ∀ i, i < n + 1 → ((known n).getD i []).length = i * (i - 1) / 2 + 1 := by
  rw [known_of (by omega)]
  exact (by decide +kernel : ∀ n, n < 11 → ∀ i, i < n + 1 → ((lit.take (n + 1)).getD i []).length = i * (i - 1) / 2 + 1) n h
theorem row_len {n : Nat} (h : n < 10) : (row (known n) (n + 1)).length ≤ 46 := by
  rw [row_of h]
  exact (by decide +kernel : ∀ n, n < 10 → (lit.getD (n + 1) []).length ≤ 46) n h
theorem fit : ∀ n, n < 11 → ∀ before, before < n → before * (before - 1) / 2 + (n - 1 - before) * (n - 1 - before - 1) / 2 + before ≤ n * (n - 1) / 2 := by decide +kernel
theorem ch_small : ∀ n, n < 10 → ∀ k, k < n + 1 → 1 ≤ ch n k ∧ ch n k ≤ 126 := by decide +kernel
theorem Le2.lt {a b : List Nat} (h : Le2 a b) {N : Nat} (hN : 0 < N) (hb : ∀ x ∈ b, x < N) (i : Nat) : a.getD i 0 < N := by
  refine Nat.lt_of_le_of_lt (h.2 i) ?_
  rw [List.getD_eq_getElem?_getD]
  by_cases hi : i < b.length
  · rw [List.getElem?_eq_getElem hi]; exact hb _ (List.getElem_mem hi)
  · rw [List.getElem?_eq_none (by omega)]; exact hN
/-- what the walk wants of a round's numbers: they are small, and the places lie in the row -/
theorem sizes {s b af : Nat} (hs : s < 11) (h : af + b + 1 = s) : ((known (s - 1)).getD b []).length + ((known (s - 1)).getD af []).length + b ≤ s * (s - 1) / 2 + 2 ∧ ((known (s - 1)).getD b []).length ≤ 46 ∧ ((known (s - 1)).getD af []).length ≤ 46 := by
  have h1 := all_len (n := s - 1) (by omega) b (by omega)
  have h2 := all_len (n := s - 1) (by omega) af (by omega)
  have h3 := fit s hs b (by omega)
  have h4 : b * (b - 1) ≤ 90 := Nat.mul_le_mul (show b ≤ 10 by omega) (show b - 1 ≤ 9 by omega)
  have h5 : af * (af - 1) ≤ 90 := Nat.mul_le_mul (show af ≤ 10 by omega) (show af - 1 ≤ 9 by omega)
  rw [show s - 1 - b = af by omega] at h3
  omega
end MSpread
end Go.Proofs.Ytfopeenjpdaacaa.PC
end
section
/- The number of ways to choose, below 10. -/
namespace Go.Proofs.Ytfopeenjpdaacaa.PC
open Go.RowKit Go.Proofs.YtfopeenjpdaacaaW.PrintWords Go.Proofs.YtfopeenjpdaacaaW.PrintLast Go.Proofs.YtfopeenjpdaacaaW.PrintMore
set_option maxHeartbeats 400000 in
theorem choose_walk (n i : Nat) (hn : n < 10) (hi : i ≤ n) (w : World) :
    Calls Try.prog 71 #[.int .i64 (n : Int), .int .i64 (i : Int)] w fun e w' => e = .returned (.int .i64 ((chairs_Spread.ch n i : Nat) : Int)) ∧ w = w' := by
  go_enter Try.func71, Try.ntmps71
  go_wp2
  go_loop [5, 8] (fun o k => ∃ q : Nat, q ≤ i ∧ k = .int .i64 (q : Int) ∧ o = .int .i64 ((chairs_Spread.ch n q : Nat) : Int)) (fun _ k => i - (intOf k).toNat)
  case atStart => exact ⟨0, Nat.zero_le _, rfl, rfl⟩
  case round =>
    obtain ⟨q, hq, rfl, rfl⟩ := hrel
    by_cases hlt : q < i
    · have d1 : decide ((q : Int) < (i : Int)) = true := decide_eq_true (by omega)
      obtain ⟨c, hc⟩ : ∃ c, chairs_Spread.ch n q = c := ⟨_, rfl⟩
      have hb := MSpread.ch_small n hn q (by omega)
      have hs : chairs_Spread.ch n (q + 1) = c * (n - q) / (q + 1) := by rw [← hc]; rfl
      rw [hc] at hb ⊢
      obtain ⟨m, hm⟩ : ∃ m : Int, (n : Int) - (q : Int) = m := ⟨_, rfl⟩
      have hm0 : 0 ≤ m := by omega
      have hm1 : m ≤ 9 := by omega
      have hcm : (c : Int) * m = ((c * (n - q) : Nat) : Int) := by rw [← hm, Int.natCast_mul]; congr 1; omega
      obtain ⟨p, hp⟩ : ∃ p : Int, (c : Int) * m = p := ⟨_, rfl⟩
      have hp0 : 0 ≤ p := by rw [← hp]; exact Int.mul_nonneg (by omega) hm0
      have hp1 : p ≤ 1134 := by
        have h1 := Int.mul_le_mul (show (c : Int) ≤ 126 by omega) hm1 hm0 (by omega)
        omega
      have hpd : ((c * (n - q) / (q + 1) : Nat) : Int) = p / ((q : Int) + 1) := by rw [← hp, hcm]; rfl
      have HD : Hid (((chairs_Spread.ch n (q + 1) : Nat) : Int) = p / ((q : Int) + 1)) := Lib.hid (by rw [hs]; exact hpd)
      have hd0 : 0 ≤ p / ((q : Int) + 1) := Int.ediv_nonneg hp0 (by omega)
      have hd1 : p / ((q : Int) + 1) ≤ 1134 := Int.le_trans (Int.ediv_le_self _ hp0) hp1
      have hne : ((q : Int) + 1 == 0) = false := beq_eq_false_iff_ne.2 (by omega)
      have hne2 : ¬ ((q : Int) + 1 = 0) := by omega
      clear hc hs hcm hpd
      go_wp2
      go_round
      case rel => exact ⟨q + 1, by omega, by go_num, by rw [HD.out]⟩
      case measure => simp [intOf]; omega
    · obtain rfl : q = i := by omega
      have d1 : decide ((q : Int) < (q : Int)) = false := decide_eq_false (by omega)
      go_wp2
      go_ret
      exact ⟨rfl, rfl⟩
end Go.Proofs.Ytfopeenjpdaacaa.PC
end
section
/- A row of new numbers: how it is made; and the rows that are known. -/
namespace Go.Proofs.Ytfopeenjpdaacaa.PC
open Go.RowKit Go.Proofs.YtfopeenjpdaacaaW.PrintWords Go.Proofs.YtfopeenjpdaacaaW.PrintLast Go.Proofs.YtfopeenjpdaacaaW.PrintMore
/-- the row of M new numbers, of which those of ps are there -/
structure ISt (J : World → Prop) (Wr : World) (q M : Nat) (ps : List Nat) (W : World) : Prop where
  below : Below Wr.heap.size Wr W
  row : W.heap[q]? = some (.cells (ps.map ptr ++ List.replicate (M - ps.length) (Value.pointer none)).toArray 66 (0, 0))
  num : ∀ p ∈ ps, Num W p 0
  nodup : ps.Nodup
  hq : Wr.heap.size ≤ q
  hp : ∀ p ∈ ps, Wr.heap.size ≤ p
  hM : ps.length ≤ M
  j : J W
theorem made_ptr (M : Nat) : madeCells #[Value.pointer none] M = (List.replicate M (Value.pointer none)).toArray := by
  apply Array.ext
  · simp [madeCells]
  · intro i h1 h2
    simp [madeCells, Nat.mod_one]
theorem ISt.start {B0 : Nat} {J : World → Prop} (hJ : Stable B0 J) (Wr : World) (M : Nat) (h0 : J Wr) : ISt J Wr Wr.heap.size M [] (Wr.alloc (.cells (madeCells #[.pointer none] M) 66)) where
  below := (Below.refl _ _).alloc (Nat.le_refl _) _
  row := by rw [heap_alloc_new, made_ptr]; simp
  num := fun p hp => by cases hp
  nodup := List.nodup_nil
  hq := Nat.le_refl _
  hp := fun p hp => by cases hp
  hM := Nat.zero_le _
  j := hJ _ _ h0 (.of_below ((Below.refl _ _).alloc (Nat.le_refl _) _))
theorem ISt.cell {J : World → Prop} {Wr W : World} {q M : Nat} {ps : List Nat} (h : ISt J Wr q M ps W) (hi : ps.length < M) : W.cell? ⟨q, ps.length, none⟩ = some (.pointer none) ∧ W.frozen? ⟨q, ps.length, none⟩ = false := by
  constructor
  · obtain ⟨d, hd⟩ : ∃ d, M - ps.length = d + 1 := ⟨M - ps.length - 1, by omega⟩
    simp [World.cell?, h.row, hd, List.replicate_succ]
  · simp [World.frozen?, h.row]
theorem ISt.step {B0 : Nat} {J : World → Prop} (hJ : Stable B0 J) {Wr W : World} (hB0 : B0 ≤ Wr.heap.size) {q M : Nat} {ps : List Nat} (h : ISt J Wr q M ps W) (hi : ps.length < M) :
    ISt J Wr q M (ps ++ [W.heap.size]) ((W.alloc (.cells #[.bool false, .slice none 0 0] 82)).setCell ⟨q, ps.length, none⟩ (ptr W.heap.size)) := by
  obtain ⟨W1, hW1⟩ : ∃ W1, W.alloc (.cells #[.bool false, .slice none 0 0] 82) = W1 := ⟨_, rfl⟩
  have hb1 : Below W.heap.size W W1 := by rw [← hW1]; exact (Below.refl _ _).alloc (Nat.le_refl _) _
  have hs1 : W1.heap.size = W.heap.size + 1 := by rw [← hW1]; simp
  have hn1 : W1.heap[W.heap.size]? = some (.cells #[.bool false, .slice none 0 0] 82 (0, 0)) := by rw [← hW1]; exact heap_alloc_new _ _
  have hq := block_lt' h.row
  have hr1 := (hb1.block q hq).trans h.row
  have hg := grown_set W1 q ps.length (ptr W.heap.size)
  have hst : Stp B0 W1 (W1.setCell ⟨q, ps.length, none⟩ (ptr W.heap.size)) := ⟨_, hg, fun r e => by cases e; exact ⟨Nat.le_trans hB0 h.hq, _, _, hr1, .inr (.inl rfl)⟩⟩
  have keep : ∀ b, b ≠ q → (W1.setCell ⟨q, ps.length, none⟩ (ptr W.heap.size)).heap[b]? = W1.heap[b]? := fun b hb => Below.heap_setCell W1 _ _ b hb
  have dig : ∀ {s : Value} {v : Nat}, Dig W1 s v → Dig (W1.setCell ⟨q, ps.length, none⟩ (ptr W.heap.size)) s v := fun hd => hd.same fun g cells hc => keep g (by
    rintro rfl
    rw [hr1] at hc
    injection hc with hc
    injection hc with _ h2
    cases h2)
  have nonew : W.heap.size ∉ ps := fun hm => by have := (h.num _ hm).lt; omega
  rw [hW1]
  refine ⟨?_, ?_, ?_, ?_, h.hq, ?_, by simp; omega, hJ _ _ (hJ _ _ h.j (.of_below hb1)) hst⟩
  · exact (h.below.trans (hb1.mono h.below.size)).setCell (p := ⟨q, ps.length, none⟩) h.hq _
  · rw [heap_set hr1]
    congr 2
    obtain ⟨d, hd⟩ : ∃ d, M - ps.length = d + 1 := ⟨M - ps.length - 1, by omega⟩
    have hd2 : M - (ps ++ [W.heap.size]).length = d := by simp; omega
    rw [hd, hd2, List.replicate_succ]
    simp
  · intro p hp
    rw [List.mem_append] at hp
    rcases hp with hp | hp
    · obtain ⟨s, h1, h2⟩ := (h.num p hp).below hb1
      exact ⟨s, (keep p (by
        rintro rfl
        rw [hr1] at h1
        injection h1 with h1
        injection h1 with _ h2
        cases h2)).trans h1, dig h2⟩
    · rw [List.mem_singleton] at hp
      subst hp
      exact ⟨_, (keep _ (by omega)).trans hn1, .inl ⟨rfl, _, _, rfl, by omega⟩⟩
  · rw [List.nodup_append]
    refine ⟨h.nodup, by simp, ?_⟩
    intro a ha b hb e
    rw [List.mem_singleton] at hb
    exact nonew (by rw [← hb, ← e]; exact ha)
  · intro p hp
    rw [List.mem_append] at hp
    rcases hp with hp | hp
    · exact h.hp p hp
    · rw [List.mem_singleton] at hp
      have := h.below.size
      omega
theorem ISt.step' {B0 : Nat} {J : World → Prop} (hJ : Stable B0 J) {Wr W : World} (hB0 : B0 ≤ Wr.heap.size) {q M : Nat} {ps : List Nat} (h : ISt J Wr q M ps W) (hi : ps.length < M) :
    ISt J Wr q M (ps ++ [W.heap.size]) ((W.setCell ⟨q, ps.length, none⟩ (.pointer (some ⟨W.heap.size, 0, none⟩))).alloc (.cells #[.bool false, .slice none 0 0] 82)) := by
  have := h.step hJ hB0 hi
  rw [World.setCell_alloc_past _ _ _ _ (block_lt' h.row)] at this
  exact this
theorem ISt.done {J : World → Prop} {Wr W : World} {q M : Nat} {ps : List Nat} (h : ISt J Wr q M ps W) (hl : ps.length = M) : RSt J Wr q ps (List.replicate M 0) W where
  below := h.below
  row := ⟨by
    have := h.row
    rw [hl, Nat.sub_self] at this
    simpa [PRow] using this, by simp [hl], fun i hi => by
    rw [List.length_replicate] at hi
    rw [show (List.replicate M 0).getD i 0 = 0 by simp [List.getD_eq_getElem?_getD, hi]]
    exact h.num _ (getD_mem (by omega))⟩
  nodup := h.nodup
  hq := h.hq
  hp := h.hp
  j := h.j
/-- the rows that are known -/
def KnV (B0 : Nat) (W : World) (kv : Value) (rows : List (List Nat)) : Prop := ∃ vals : List Value, W.ownsRow B0 65 1 kv rows.length vals ∧ ∀ i, i < rows.length → RowV W (vals.getD i undef) (rows.getD i [])
theorem KnV.below {B0 : Nat} {W W' : World} {kv : Value} {rows : List (List Nat)} (h : KnV B0 W kv rows) (hb : Below W.heap.size W W') : KnV B0 W' kv rows := by
  obtain ⟨vals, h1, h2⟩ := h
  exact ⟨vals, pw_own_below h1 hb, fun i hi => (h2 i hi).below hb⟩
theorem KnV.start {B0 : Nat} {w' : World} {p0 : Nat} (h : Num w' p0 1) (hB0 : B0 ≤ w'.heap.size) : KnV B0 ((w'.alloc (.cells #[.pointer (some ⟨p0, 0, none⟩)] 66)).alloc (.cells #[.slice (some ⟨w'.heap.size, 0, none⟩) 1 1] 65)) (.slice (some ⟨w'.heap.size + 1, 0, none⟩) 1 1) [[1]] := by
  obtain ⟨W1, hW1⟩ : ∃ W1, w'.alloc (.cells #[.pointer (some ⟨p0, 0, none⟩)] 66) = W1 := ⟨_, rfl⟩
  have hb1 : Below w'.heap.size w' W1 := by rw [← hW1]; exact (Below.refl _ _).alloc (Nat.le_refl _) _
  have hs1 : W1.heap.size = w'.heap.size + 1 := by rw [← hW1]; simp
  have hn1 : W1.heap[w'.heap.size]? = some (.cells #[.pointer (some ⟨p0, 0, none⟩)] 66 (0, 0)) := by rw [← hW1]; exact heap_alloc_new _ _
  rw [hW1]
  refine ⟨[.slice (some ⟨w'.heap.size, 0, none⟩) 1 1], ?_, fun i hi => ?_⟩
  · have := World.ownsRow_lit (base := B0) (e := 65) (size := 1) W1 #[.slice (some ⟨w'.heap.size, 0, none⟩) 1 1] 1 (by omega) (by simp [maxLen]) (by simp)
    rw [hs1] at this
    exact this
  · simp only [List.length_cons, List.length_nil] at hi
    obtain rfl : i = 0 := by omega
    refine ⟨w'.heap.size, [p0], rfl, ?_⟩
    refine NRow.below (W := W1) ⟨hn1, rfl, fun j hj => ?_⟩ ((Below.refl _ _).alloc (Nat.le_refl _) _)
    simp only [List.length_cons, List.length_nil, List.getD_cons_zero] at hj
    obtain rfl : j = 0 := by omega
    exact h.below hb1
theorem KnV.form {B0 : Nat} {W : World} {kv : Value} {rows : List (List Nat)} (h : KnV B0 W kv rows) (hr : 0 < rows.length) : ∃ g cap, kv = .slice (some ⟨g, 0, none⟩) rows.length cap := by
  obtain ⟨vals, h1, h2⟩ := h
  obtain ⟨g, cap, e, _⟩ := h1.form hr
  exact ⟨g, cap, e⟩
/-- a row that is known: its place in the table, and its pointers -/
theorem KnV.at_ {B0 : Nat} {W : World} {g n cap : Nat} {rows : List (List Nat)} (h : KnV B0 W (.slice (some ⟨g, 0, none⟩) n cap) rows) (i : Nat) (hi : i < rows.length) :
    ∃ q ps, W.cell? ⟨g, i, none⟩ = some (.slice (some ⟨q, 0, none⟩) (rows.getD i []).length (rows.getD i []).length) ∧ NRow W q ps (rows.getD i []) := by
  obtain ⟨vals, h1, h2⟩ := h
  obtain ⟨q, ps, e, hn⟩ := h2 i hi
  refine ⟨q, ps, ?_, hn⟩
  have hl : vals.length = rows.length := by have := h1.1; omega
  have := h1.cells (g := g) rfl i (vals.getD i undef) (by simp [List.getD_eq_getElem?_getD, hl, hi])
  rw [add_plain] at this
  rw [this, e]
theorem RSt.kn {B0 : Nat} {J : World → Prop} {Wr W : World} {q : Nat} {ps vs : List Nat} (h : RSt J Wr q ps vs W) {kv : Value} {rows : List (List Nat)} (hK : KnV B0 Wr kv rows) : KnV B0 W kv rows := hK.below h.below
theorem RSt.notin {J : World → Prop} {Wr W : World} {q : Nat} {ps vs : List Nat} (h : RSt J Wr q ps vs W) {p : Nat} (hp : W.heap.size ≤ p) : p ∉ ps := fun hm => by
  obtain ⟨i, hi, rfl⟩ := List.getElem_of_mem hm
  have := (h.row.num i (by rw [← h.row.len]; exact hi)).lt
  simp only [List.getD_eq_getElem?_getD, List.getElem?_eq_getElem hi, Option.getD_some] at this
  omega
/-- two new numbers -/
abbrev zero82 : Obj := .cells #[.bool false, .slice none 0 0] 82
theorem two_new (w : World) : Slot ((w.alloc zero82).alloc zero82) w.heap.size ∧ Slot ((w.alloc zero82).alloc zero82) (w.heap.size + 1) ∧ Below w.heap.size w ((w.alloc zero82).alloc zero82) := by
  have h1 := heap_alloc_new w zero82
  have h2 := heap_alloc_new (w.alloc zero82) zero82
  have hs : (w.alloc zero82).heap.size = w.heap.size + 1 := by simp
  rw [hs] at h2
  refine ⟨⟨_, _, (Below.heap_alloc _ _ _ (by omega)).trans h1⟩, ⟨_, _, h2⟩, ((Below.refl _ _).alloc (Nat.le_refl _) _).alloc (by omega) _⟩
theorem below_num {B : Nat} {w w1 w2 : World} {p : Nat} (h : Below B w w1) (hB : B ≤ p) (hg : w1.grownBy w2 (some p)) (hw : B ≤ w.heap.size) : Below B w w2 :=
  ⟨hg.os.trans h.os, hg.tape.trans h.tape, hg.output.trans h.output, Nat.le_trans h.size hg.size, fun k hk => (hg.block k (by have := h.size; omega) (by rintro e; cases e; omega)).trans (h.block k hk)⟩
theorem Slot.grown {W W' : World} {p z : Nat} (h : Slot W p) (hne : p ≠ z) (hg : W.grownBy W' (some z)) : Slot W' p := by
  obtain ⟨b, s, h1⟩ := h
  exact ⟨b, s, (hg.block p (block_lt' h1) (by rintro e; cases e; exact hne rfl)).trans h1⟩
theorem choose_at (n i c : Nat) (hn : n < 10) (hi : i ≤ n) (hc : chairs_Spread.ch n i = c) (w : World) :
    Calls Try.prog 71 #[.int .i64 (n : Int), .int .i64 (i : Int)] w fun e w' => e = .returned (.int .i64 (c : Int)) ∧ w = w' := by
  rw [← hc]; exact choose_walk n i hn hi w
/-- a step that writes one block of a type leaves what is of other types -/
def Keep65 (W W' : World) : Prop := ∀ (r : Nat) (cells : Array Value) (t : Nat), W.heap[r]? = some (.cells cells t (0, 0)) → t = 66 ∨ t = 82 ∨ t = 92 → W'.heap[r]? = W.heap[r]?
theorem NRow.keep {W W' : World} {q : Nat} {ps vs : List Nat} (h : NRow W q ps vs) (k : Keep65 W W') : NRow W' q ps vs := by
  refine ⟨(k q _ _ h.row (.inl rfl)).trans h.row, h.len, fun i hi => ?_⟩
  obtain ⟨s, h1, h2⟩ := h.num i hi
  exact ⟨s, (k _ _ _ h1 (.inr (.inl rfl))).trans h1, h2.same fun g cells hc => k g cells 92 hc (.inr (.inr rfl))⟩
theorem RowV.keep {W W' : World} {v : Value} {vs : List Nat} (h : RowV W v vs) (k : Keep65 W W') : RowV W' v vs := by
  obtain ⟨q, ps, e, hn⟩ := h
  exact ⟨q, ps, e, hn.keep k⟩
theorem keep_of_own {W W' : World} {kv : Value} {n : Nat} {vals : List Value} {b : Nat} (h : W.ownsRow b 65 1 kv n vals) (hg : W.grownBy W' kv.ownBlock) : Keep65 W W' := fun r cells t hr ht => by
  refine hg.block r (block_lt' hr) fun e => ?_
  obtain ⟨cells', hc⟩ := own_typed h r e.symm
  rw [hr] at hc
  injection hc with hc
  injection hc with _ h2
  rw [h2] at ht
  rcases ht with ht | ht | ht <;> cases ht
theorem stp_of_own {W W' : World} {kv : Value} {n : Nat} {vals : List Value} {b : Nat} (h : W.ownsRow b 65 1 kv n vals) (hg : W.grownBy W' kv.ownBlock) : Stp b W W' := ⟨_, hg, fun r e => by
  obtain ⟨cells', hc⟩ := own_typed h r e
  exact ⟨own_base h r e, _, _, hc, .inl rfl⟩⟩
/-- the table of rows with one row more -/
theorem KnV.snoc {B0 : Nat} {W W1 : World} {kv v1 y : Value} {rows : List (List Nat)} {vals : List Value} {F : List Nat} (h1 : W.ownsRow B0 65 1 kv rows.length vals) (h2 : ∀ i, i < rows.length → RowV W (vals.getD i undef) (rows.getD i [])) (hy : RowV W y F)
    (hg : W.grownBy W1 kv.ownBlock) (ho : W1.ownsRow B0 65 1 v1 (vals ++ [y]).length (vals ++ [y])) : KnV B0 W1 v1 (rows ++ [F]) := by
  have hl : vals.length = rows.length := by have := h1.1; omega
  have hk := keep_of_own h1 hg
  refine ⟨vals ++ [y], by rw [List.length_append, ← hl] ; simpa using ho, fun i hi => ?_⟩
  by_cases e : i < rows.length
  · rw [show (vals ++ [y]).getD i undef = vals.getD i undef by simp [List.getD_eq_getElem?_getD, List.getElem?_append, hl, e], show (rows ++ [F]).getD i [] = rows.getD i [] by simp [List.getD_eq_getElem?_getD, List.getElem?_append, e]]
    exact (h2 i e).keep hk
  · rw [List.length_append, List.length_singleton] at hi
    obtain rfl : i = rows.length := by omega
    rw [show (vals ++ [y]).getD rows.length undef = y by simp [List.getD_eq_getElem?_getD, ← hl], show (rows ++ [F]).getD rows.length [] = F by simp [List.getD_eq_getElem?_getD]]
    exact hy.keep hk
theorem RSt.rowv {J : World → Prop} {Wr W : World} {q : Nat} {ps vs : List Nat} (h : RSt J Wr q ps vs W) (i : Nat) (hi : ps.length = i) : RowV W (.slice (some ⟨q, 0, none⟩) i i) vs := ⟨q, ps, by rw [← hi, h.row.len], h.row⟩
end Go.Proofs.Ytfopeenjpdaacaa.PC
end
section
/- The iterator over rows of numbers: its closure hands out the rows one after the other. -/
namespace Go.Proofs.Ytfopeenjpdaacaa.PC
open Go.RowKit Go.Proofs.YtfopeenjpdaacaaW.PrintWords Go.Proofs.YtfopeenjpdaacaaW.PrintLast Go.Proofs.YtfopeenjpdaacaaW.PrintMore
/-- what a round of the caller keeps -/
structure KpM (Bs : Nat) (A B : World) : Prop where
  size : A.heap.size ≤ B.heap.size
  box : B.heap[Bs]? = A.heap[Bs]?
  same : ∀ (r : Nat) (cells : Array Value) (t : Nat), A.heap[r]? = some (.cells cells t (0, 0)) → t = 65 ∨ t = 66 ∨ t = 82 ∨ t = 92 → B.heap[r]? = A.heap[r]?
def MovesYield (l Bs n : Nat) (J : Nat → World → Prop) : Prop := ∀ (k : Nat) (v : Value) (W1 : World), J k W1 → k < n → RowV W1 v (chairs_Spread.row (chairs_Spread.known k) (k + 1)) → YieldAt Fence.wide 3 Try.prog l #[v] W1 fun e W' => e = .returned (.bool true) ∧ J (k + 1) W' ∧ KpM Bs W1 W'
theorem KnV.kp {B0 : Nat} {A B : World} {Bs : Nat} {kv : Value} {rows : List (List Nat)} (h : KnV B0 A kv rows) (k : KpM Bs A B) : KnV B0 B kv rows := by
  obtain ⟨vals, h1, h2⟩ := h
  refine ⟨vals, own_move h1 (fun r hr => ?_), fun i hi => (h2 i hi).keep fun r cells t hr ht => k.same r cells t hr (.inr ht)⟩
  obtain ⟨cells, hc⟩ := own_typed h1 r hr
  exact k.same r cells 65 hc (.inl rfl)
theorem info65 : (Try.prog.info? 65).map (fun i => (i.zero, i.size, i.bytes)) = some (some (.slice none 0 0), 1, 24) := by kernel_rfl
/-- the state at the head of the outer loop -/
structure LSt (B0 : Nat) (J : Nat → World → Prop) (Bs n k : Nat) (kv : Value) (W : World) : Prop where
  size : B0 ≤ W.heap.size
  known : KnV B0 W kv (chairs_Spread.known k)
  j : J k W
  box : W.heap[Bs]? = some (.cells #[.int .i64 (n : Int)] 3 (0, 0))
set_option maxRecDepth 1000000 in
set_option maxHeartbeats 4000000 in
theorem moves_in (l Bs n : Nat) (hn : n ≤ 10) (W : World) (J : Nat → World → Prop) (hJ : ∀ k, Stable W.heap.size (J k)) (hB : W.heap[Bs]? = some (.cells #[.int .i64 (n : Int)] 3 (0, 0))) (hY : MovesYield l Bs n J) (h0 : J 0 W) :
    CallsIn Fence.wide 4 Try.prog 69 #[.func (.yield l) #[] #[], .pointer (some ⟨Bs, 0, none⟩)] W fun e W' => (∃ v, e = .returned v) ∧ J n W' := by
  have HJ := Lib.hid hJ
  have HY := Lib.hid hY
  have H0 := Lib.hid h0
  have HB := Lib.hid hB
  clear hJ hY h0 hB
  refine callsIn_wide.2 ?_
  go_enter Try.func69, Try.ntmps69
  go_wp2_with (go_at_call 70; refine (NewInt_walk 1 (by omega) _).mono ?_; rintro e w' ⟨p0, rfl, hp0, hp1, hb0⟩; have HP0 := Lib.hid hp0; have HP1 := Lib.hid hp1; have HB0 := Lib.hid hb0; clear hp0 hp1 hb0)
  have hK0 := KnV.start (B0 := W.heap.size) HP1.out HB0.out.size
  have hb1 : Below W.heap.size W ((w'.alloc (.cells #[.pointer (some ⟨p0, 0, none⟩)] 66)).alloc (.cells #[.slice (some ⟨w'.heap.size, 0, none⟩) 1 1] 65)) := ((HB0.out.alloc HB0.out.size _).alloc (by have := HB0.out.size; simp; omega) _)
  have hL0 : LSt W.heap.size J Bs n 0 (.slice (some ⟨w'.heap.size + 1, 0, none⟩) 1 1) ((w'.alloc (.cells #[.pointer (some ⟨p0, 0, none⟩)] 66)).alloc (.cells #[.slice (some ⟨w'.heap.size, 0, none⟩) 1 1] 65)) :=
    ⟨hb1.size, hK0, HJ.out 0 _ _ H0.out (.of_below hb1), (hb1.block Bs (block_lt' HB.out)).trans HB.out⟩
  have HL0 := Lib.hid hL0
  clear hK0 hb1 hL0
  go_loopw [3, 4] (fun kv sz wr => ∃ s g cap : Nat, 1 ≤ s ∧ s ≤ n + 1 ∧ sz = .int .i64 (s : Int) ∧ kv = .slice (some ⟨g, 0, none⟩) s cap ∧ LSt W.heap.size J Bs n (s - 1) kv wr) (fun _ sz _ => n + 1 - (intOf sz).toNat)
  case atStart => exact ⟨1, _, _, by omega, by omega, rfl, rfl, HL0.out⟩
  case round =>
    obtain ⟨s, g, cap, hs1, hs2, rfl, rfl, hL⟩ := hrel
    have hBc : wr.cell? ⟨Bs, 0, none⟩ = some (.int .i64 (n : Int)) := by
      have := hL.box
      simp [World.cell?, this]
    have HL := Lib.hid hL
    clear hL HL0
    obtain ⟨wl, rfl⟩ : ∃ wl : World, wl = wr := ⟨_, rfl⟩
    by_cases hlt : s ≤ n
    · have d1 : decide ((s : Int) ≤ (n : Int)) = true := decide_eq_true (by omega)
      obtain ⟨s1, hs1'⟩ : ∃ s1, s1 + 1 = s := ⟨s - 1, by omega⟩
      have e0 : (s : Int) - 1 = (s1 : Int) := by omega
      have HS1 := Lib.hid hs1'
      obtain ⟨P, hP⟩ : ∃ P, s * (s - 1) = P := ⟨_, rfl⟩
      have hPb : P ≤ 90 := by
        rw [← hP]
        exact Nat.mul_le_mul (show s ≤ 10 by omega) (show s - 1 ≤ 9 by omega)
      have e1 : (s : Int) * (s1 : Int) = (P : Int) := by
        rw [← hP, Int.natCast_mul]; congr 1; omega
      have hs9 : s1 < 10 := by omega
      clear hs1'
      obtain ⟨M, hM⟩ : ∃ M, P / 2 + 1 = M := ⟨_, rfl⟩
      have e2 : (P : Int) / 2 + 1 = (M : Int) := by omega
      have hmk : ∀ W : World, (Instr.makeSlice 65 (.int .i64 (M : Int)) (.int .i64 (M : Int))).run Try.prog W = .ok (.slice (some ⟨W.heap.size, 0, none⟩) M M) (W.alloc (.cells (madeCells #[.pointer none] M) 66)) := fun W => run_make_row' 65 66 (.pointer none) 8 Try.underlying65 (by kernel_rfl) rfl .i64 .i64 M (by omega) (by omega) W
      have HI := Lib.hid (ISt.start (J := J (s - 1)) (HJ.out _) wl M HL.out.j)
      have HP := Lib.hid hP
      have HM := Lib.hid hM
      have hMb : M ≤ 46 := by omega
      clear hP hM
      go_wp2
      obtain ⟨q, hq⟩ : ∃ q, wl.heap.size = q := ⟨_, rfl⟩
      obtain ⟨W2, hW2⟩ : ∃ W2, wl.alloc (.cells (madeCells #[.pointer none] M) 66) = W2 := ⟨_, rfl⟩
      have hI1 := HI.out
      rw [hW2] at hI1 ⊢
      rw [hq] at hI1 ⊢
      have HI1 := Lib.hid hI1
      have HW2 := Lib.hid hW2
      have HQ := Lib.hid hq
      clear hI1 hW2 hq HI
      go_loopw [33] (fun i w3 => ∃ ps : List Nat, i = .int .i64 ((ps.length : Nat) : Int) ∧ ISt (J (s - 1)) wl q M ps w3) (fun i _ => M - (intOf i).toNat)
      case atStart => exact ⟨[], rfl, HI1.out⟩
      case round =>
        obtain ⟨ps, rfl, hI⟩ := hrel
        have hMl := hI.hM
        have HI := Lib.hid hI
        clear hI
        obtain ⟨i, hi⟩ : ∃ i, ps.length = i := ⟨_, rfl⟩
        rw [hi] at hMl ⊢
        by_cases hlt2 : i < M
        · have d2 : decide ((i : Int) < (M : Int)) = true := decide_eq_true (by omega)
          have hc := (HI.out.cell (by omega))
          have hst := HI.out.step' (HJ.out _) HL.out.size (by omega)
          rw [hi] at hc hst
          obtain ⟨hc1, hc2⟩ := hc
          have hqw : q < wr.heap.size := block_lt' HI.out.row
          have HST := Lib.hid hst
          have HIL := Lib.hid hi
          clear hst hi
          go_wp2
          go_roundw
          case rel => exact ⟨ps ++ [wr.heap.size], by simp [HIL.out], HST.out⟩
          case measure => simp [intOf]; omega
        · obtain rfl : i = M := by omega
          have d2 : decide ((i : Int) < (i : Int)) = false := decide_eq_false (by omega)
          have hR := HI.out.done hi
          have HR := Lib.hid hR
          have HIL := Lib.hid hi
          obtain ⟨rows, hrows⟩ : ∃ rows, chairs_Spread.known (s - 1) = rows := ⟨_, rfl⟩
          obtain ⟨F, hF⟩ : ∃ F, chairs_Spread.row rows s = F := ⟨_, rfl⟩
          have hlen : rows.length = s := by rw [← hrows, MSpread.known_length]; omega
          have hKN := HL.out.known
          rw [hrows] at hKN
          have HKN := Lib.hid hKN
          have HROWS := Lib.hid hrows
          have HF := Lib.hid hF
          have HLEN := Lib.hid hlen
          have hfb : ∀ x ∈ F, x < 4294967296 := by
            rw [← hF, ← hrows]
            have := MSpread.all_small (n := s - 1) (by omega)
            rwa [show s - 1 + 1 = s by omega] at this
          have HFB := Lib.hid hfb
          clear hfb
          have hst0 : chairs_Spread.befs rows s (s - 0) 0 (List.replicate i 0) = F := by
            rw [← hF]
            unfold chairs_Spread.row
            rw [Nat.sub_zero, HP.out, HM.out]
          have HST0 := Lib.hid hst0
          clear hR hi hrows hF hlen hKN hst0
          go_wp2
          obtain ⟨wo, rfl⟩ : ∃ wo : World, wo = wr := ⟨_, rfl⟩
          go_loopw [42] (fun t w3 => ∃ (b : Nat) (vs : List Nat), b ≤ s ∧ t = .int .i64 (b : Int) ∧ RSt (J (s - 1)) wl q ps vs w3 ∧ Hid (chairs_Spread.befs rows s (s - b) b vs = F)) (fun t _ => s - (intOf t).toNat)
          case atStart => exact ⟨0, _, by omega, rfl, HR.out, HST0⟩
          case round =>
            obtain ⟨b, vs, hb1, rfl, hR3, hG3⟩ := hrel
            have HR3 := Lib.hid hR3
            clear hR3
            by_cases hlt3 : b < s
            · have d3 : decide ((b : Int) < (s : Int)) = true := decide_eq_true (by omega)
              have hs1' := HS1.out
              obtain ⟨af, haf⟩ : ∃ af, af + b = s1 := ⟨s1 - b, by omega⟩
              obtain ⟨c, hc⟩ : ∃ c, chairs_Spread.ch s1 b = c := ⟨_, rfl⟩
              have hcb := MSpread.ch_small s1 (by omega) b (by omega)
              rw [hc] at hcb
              obtain ⟨hc0, hc1⟩ := hcb
              have e5 : (s1 : Int) - (b : Int) = (af : Int) := by omega
              have HC := Lib.hid hc
              obtain ⟨xr, hxr⟩ : ∃ xr, rows.getD b [] = xr := ⟨_, rfl⟩
              obtain ⟨yr, hyr⟩ : ∃ yr, rows.getD af [] = yr := ⟨_, rfl⟩
              have HXR := Lib.hid hxr
              have HYR := Lib.hid hyr
              obtain ⟨G4, hG4⟩ : ∃ G4, chairs_Spread.xs c (b + 1) yr xr 0 vs = G4 := ⟨_, rfl⟩
              have hg3 : chairs_Spread.befs rows s (s - (b + 1)) (b + 1) G4 = F := by
                have h := hG3.out
                rw [show s - b = (s - (b + 1)) + 1 by omega] at h
                simp only [chairs_Spread.befs] at h
                rw [show s - 1 = s1 by omega, hc, hxr, show s1 - b = af by omega, hyr, hG4] at h
                exact h
              have HG3 := Lib.hid hg3
              have HG4 : Hid (chairs_Spread.xs c (b + 1) yr (xr.drop 0) 0 vs = G4) := Lib.hid hG4
              obtain ⟨lx, hlx⟩ : ∃ lx, xr.length = lx := ⟨_, rfl⟩
              have HLX := Lib.hid hlx
              obtain ⟨ly, hly⟩ : ∃ ly, yr.length = ly := ⟨_, rfl⟩
              have HLY := Lib.hid hly
              have hsz := MSpread.sizes (s := s) (b := b) (af := af) (by omega) (by omega)
              rw [HROWS.out, hxr, hyr, hlx, hly, HP.out] at hsz
              obtain ⟨hfit, hlb, hlyb⟩ := hsz
              have hfit2 : lx + ly + b ≤ i + 1 := by have := HM.out; omega
              have HLE4 : Hid (MSpread.Le2 G4 F) := Lib.hid (by rw [← hg3]; exact MSpread.befs_le _ _ _ _ _)
              have hgf := HKN.out.at_ af (by rw [HLEN.out]; omega)
              rw [hyr] at hgf
              obtain ⟨qy, py, hqy, hny⟩ := hgf
              rw [hly] at hqy
              have HNY := Lib.hid hny
              have HQY := Lib.hid hqy
              clear hfit hly hny hqy
              have HAF := Lib.hid haf
              have hbs : b ≤ s1 := by omega
              have hafs : af < s := by omega
              have hgb := HKN.out.at_ b (by rw [HLEN.out]; exact hlt3)
              rw [hxr] at hgb
              obtain ⟨qx, px, hqx, hnx⟩ := hgb
              rw [hlx] at hqx
              have hgw := World.block_lt_of_cell? _ _ hqx
              simp only at hgw
              have HNX := Lib.hid hnx
              have HQX := Lib.hid hqx
              clear hs1' haf hc hxr hyr hG4 hG3 hg3 hlx hnx hqx
              have hb0i : (0 : Int) ≤ (b : Int) := Int.natCast_nonneg _
              have hbsi : (b : Int) < (s : Int) := by omega
              go_wp2_with fail
              refine (choose_at s1 b c hs9 hbs HC.out _).mono ?_
              rintro e w' ⟨rfl, rfl⟩
              go_wp2_with fail
              refine (NewInt_walk c (by omega) _).mono ?_
              rintro e w4 ⟨pw, rfl, hpw, hnw, hbw⟩
              have HPW : Hid (pw ∉ ps) := Lib.hid (HR3.out.notin hpw)
              have HR4 := Lib.hid (HR3.out.later (HJ.out _) hbw)
              have HNW := Lib.hid hnw
              have hqx := (HR4.out.below.cell (p := ⟨g, b, none⟩) hgw).trans HQX.out
              clear hpw hnw hbw
              have hafi : (0 : Int) ≤ (af : Int) := Int.natCast_nonneg _
              have hafj : (af : Int) < (s : Int) := by omega
              go_wp2
              clear hqx
              go_loopw [59] (fun t w5 => ∃ (a : Nat) (vs : List Nat), a ≤ lx ∧ t = .int .i64 (a : Int) ∧ RSt (J (s - 1)) wl q ps vs w5 ∧ Num w5 pw c ∧ Hid (chairs_Spread.xs c (b + 1) yr (xr.drop a) a vs = G4)) (fun t _ => lx - (intOf t).toNat)
              case atStart => exact ⟨0, _, by omega, rfl, HR4.out, HNW.out, HG4⟩
              case round =>
                obtain ⟨a, vs4, ha1, rfl, hR5, hN5, hG4⟩ := hrel
                have HR5 := Lib.hid hR5
                have HN5 := Lib.hid hN5
                clear hR5 hN5
                by_cases hlt4 : a < lx
                · have d4 : decide ((a : Int) < (lx : Int)) = true := decide_eq_true (by omega)
                  have hNXa := HNX.out.below HR5.out.below
                  have hpl : px.length = lx := by rw [hNXa.len, HLX.out]
                  have hcx := hNXa.row.cell a (by omega)
                  have hnx := hNXa.num a (by rw [HLX.out]; exact hlt4)
                  obtain ⟨x, hx⟩ : ∃ x, xr.getD a 0 = x := ⟨_, rfl⟩
                  obtain ⟨pa, hpa⟩ : ∃ pa, px.getD a 0 = pa := ⟨_, rfl⟩
                  rw [hpa] at hcx
                  rw [hx, hpa] at hnx
                  have HXV := Lib.hid hx
                  have HPA := Lib.hid hpa
                  obtain ⟨G5, hG5⟩ : ∃ G5, chairs_Spread.ys (c * x) (b + 1) a yr 0 vs4 = G5 := ⟨_, rfl⟩
                  have hg4 : chairs_Spread.xs c (b + 1) yr (xr.drop (a + 1)) (a + 1) G5 = G4 := by
                    have h := hG4.out
                    rw [List.drop_eq_getElem_cons (show a < xr.length by rw [HLX.out]; exact hlt4)] at h
                    have e : xr[a]'(by rw [HLX.out]; exact hlt4) = x := by rw [← hx]; simp [List.getD_eq_getElem?_getD, HLX.out, hlt4]
                    rw [e] at h
                    simp only [chairs_Spread.xs] at h
                    rw [hG5] at h
                    exact h
                  have HG4' := Lib.hid hg4
                  have HG5 : Hid (chairs_Spread.ys (c * x) (b + 1) a (yr.drop 0) 0 vs4 = G5) := Lib.hid hG5
                  have HLE5 : Hid (MSpread.Le2 G5 F) := Lib.hid ((by rw [← hg4]; exact MSpread.xs_le _ _ _ _ _ _ : MSpread.Le2 G5 G4).trans HLE4.out)
                  have hqy := (HR5.out.below.cell (p := ⟨g, af, none⟩) hgw).trans HQY.out
                  have hpaw : pa < wl.heap.size := by
                    rw [← hpa]; exact (HNX.out.num a (by rw [HLX.out]; exact hlt4)).lt
                  clear hNXa hpl hnx hx hpa hG5 hg4 hG4
                  have ha0i : (0 : Int) ≤ (a : Int) := Int.natCast_nonneg _
                  have hali : (a : Int) < (lx : Int) := by omega
                  go_wp2
                  clear hcx hqy
                  go_loopw [69] (fun t w6 => ∃ (k : Nat) (vs : List Nat), k ≤ ly ∧ t = .int .i64 (k : Int) ∧ RSt (J (s - 1)) wl q ps vs w6 ∧ Num w6 pw c ∧ Hid (chairs_Spread.ys (c * x) (b + 1) a (yr.drop k) k vs = G5)) (fun t _ => ly - (intOf t).toNat)
                  case atStart => exact ⟨0, _, by omega, rfl, HR5.out, HN5.out, HG5⟩
                  case round =>
                    obtain ⟨k, vs5, hk1, rfl, hR6, hN6, hG5⟩ := hrel
                    have HR6 := Lib.hid hR6
                    have HN6 := Lib.hid hN6
                    clear hR6 hN6
                    by_cases hlt5 : k < ly
                    · have d5 : decide ((k : Int) < (ly : Int)) = true := decide_eq_true (by omega)
                      have hNYa := HNY.out.below HR6.out.below
                      have hpl : py.length = ly := by rw [hNYa.len, HLY.out]
                      have hcy := hNYa.row.cell k (by omega)
                      have hny := hNYa.num k (by rw [HLY.out]; exact hlt5)
                      have hnx := (HNX.out.below HR6.out.below).num a (by rw [HLX.out]; exact hlt4)
                      obtain ⟨y, hy⟩ : ∃ y, yr.getD k 0 = y := ⟨_, rfl⟩
                      obtain ⟨pb, hpb⟩ : ∃ pb, py.getD k 0 = pb := ⟨_, rfl⟩
                      rw [hpb] at hcy
                      rw [hy, hpb] at hny
                      rw [HXV.out, HPA.out] at hnx
                      have hpbw : pb < wl.heap.size := by
                        rw [← hpb]; exact (HNY.out.num k (by rw [HLY.out]; exact hlt5)).lt
                      obtain ⟨V, hV⟩ : ∃ V, c * x * y = V := ⟨_, rfl⟩
                      obtain ⟨G6, hG6⟩ : ∃ G6, chairs_Spread.adds V (b + 1) (a + k) vs5 = G6 := ⟨_, rfl⟩
                      have hg5 : chairs_Spread.ys (c * x) (b + 1) a (yr.drop (k + 1)) (k + 1) G6 = G5 := by
                        have h := hG5.out
                        rw [List.drop_eq_getElem_cons (show k < yr.length by rw [HLY.out]; exact hlt5)] at h
                        have e : yr[k]'(by rw [HLY.out]; exact hlt5) = y := by rw [← hy]; simp [List.getD_eq_getElem?_getD, HLY.out, hlt5]
                        rw [e] at h
                        simp only [chairs_Spread.ys] at h
                        rw [hV, hG6] at h
                        exact h
                      have hle6 : MSpread.Le2 G6 F := (by rw [← hg5]; exact MSpread.ys_le _ _ _ _ _ _ : MSpread.Le2 G6 G5).trans HLE5.out
                      have hak : a + k < vs5.length := by have := HR6.out.row.len; have := HIL.out; omega
                      have hVs : V < 4294967296 := Nat.lt_of_le_of_lt (by rw [← hG6]; exact MSpread.adds_ge V b (a + k) vs5 hak) (hle6.lt (by omega) HFB.out (a + k))
                      have hxyV : x * y * c = V := by rw [← hV, Nat.mul_comm (x * y) c, Nat.mul_assoc]
                      have hxy : x * y < 4294967296 := by
                        have : x * y * 1 ≤ x * y * c := Nat.mul_le_mul_left _ hc0
                        omega
                      have HV := Lib.hid hxyV
                      have HVS := Lib.hid hVs
                      have HXY := Lib.hid hxy
                      have HG5' := Lib.hid hg5
                      have HG6 : Hid (chairs_Spread.adds V (b + 1 - 0) (a + k + 0) vs5 = G6) := Lib.hid hG6
                      have HLE6 := Lib.hid hle6
                      have HNy := Lib.hid hny
                      have HNx := Lib.hid hnx
                      have HWS := Lib.hid (HR6.out.below.size)
                      clear hNYa hpl hny hnx hy hpb hV hG6 hg5 hG5 hle6 hak hVs hxyV hxy
                      have hk0i : (0 : Int) ≤ (k : Int) := Int.natCast_nonneg _
                      have hkli : (k : Int) < (ly : Int) := by omega
                      obtain ⟨wn, rfl⟩ : ∃ wn : World, wn = wr := ⟨_, rfl⟩
                      have h2 := two_new wn
                      have HT := Lib.hid h2
                      clear h2
                      go_wp2_with fail
                      refine (Mul_walk (wn.heap.size + 1) pa pb x y _ HT.out.2.1 (HNx.out.below HT.out.2.2) (HNy.out.below HT.out.2.2) (by have := HWS.out; omega) (by have := HWS.out; omega) HXY.out).mono ?_
                      rintro e w7 ⟨rfl, hm7, hg7⟩
                      have HM7 := Lib.hid hm7
                      have HG7 := Lib.hid hg7
                      clear hm7 hg7
                      go_wp2_with fail
                      refine (Mul_walk wn.heap.size (wn.heap.size + 1) pw (x * y) c _ (HT.out.1.grown (by omega) HG7.out) HM7.out ((HN6.out.below HT.out.2.2).grown HT.out.2.1 (by have := HN6.out.lt; omega) HG7.out) (by omega) (by have := HN6.out.lt; omega) (by rw [HV.out]; exact HVS.out)).mono ?_
                      rintro e w8 ⟨rfl, hm8, hg8⟩
                      have hb78 : Below wn.heap.size wn w8 := below_num (below_num HT.out.2.2 (by omega) HG7.out (Nat.le_refl _)  ) (Nat.le_refl _) hg8 (Nat.le_refl _)
                      rw [HV.out] at hm8
                      have HM8 := Lib.hid hm8
                      have HR8 := Lib.hid (HR6.out.later (HJ.out _) hb78)
                      have HN8 := Lib.hid (HN6.out.below hb78)
                      obtain ⟨pz, hpz⟩ : ∃ pz, wn.heap.size = pz := ⟨_, rfl⟩
                      have HPZ : Hid (pz ∉ ps) := Lib.hid (HR6.out.notin (by omega))
                      rw [hpz] at HM8 ⊢
                      clear hm8 hg8 hb78 hpz HT HM7 HG7
                      go_wp2
                      go_loopw [83] (fun t w9 => ∃ (d : Nat) (vs : List Nat), d ≤ b + 1 ∧ t = .int .i64 (d : Int) ∧ RSt (J (s - 1)) wl q ps vs w9 ∧ Num w9 pw c ∧ Num w9 pz V ∧ Hid (chairs_Spread.adds V (b + 1 - d) (a + k + d) vs = G6)) (fun t _ => b + 1 - (intOf t).toNat)
                      case atStart => exact ⟨0, _, by omega, rfl, HR8.out, HN8.out, HM8.out, HG6⟩
                      case round =>
                        obtain ⟨d, vs6, hd1, rfl, hR9, hN9, hM9, hG6⟩ := hrel
                        have HR9 := Lib.hid hR9
                        have HN9 := Lib.hid hN9
                        have HM9 := Lib.hid hM9
                        clear hR9 hN9 hM9
                        by_cases hlt6 : d < b + 1
                        · have d6 : decide ((d : Int) < (b : Int) + 1) = true := decide_eq_true (by omega)
                          obtain ⟨wm, rfl⟩ : ∃ wm : World, wm = wr := ⟨_, rfl⟩
                          obtain ⟨ak, hak⟩ : ∃ ak, a + k = ak := ⟨_, rfl⟩
                          obtain ⟨ix, hix⟩ : ∃ ix, ak + d = ix := ⟨_, rfl⟩
                          have hvl : vs6.length = i := by rw [← HR9.out.row.len, HIL.out]
                          have hixl : ix < i := by omega
                          obtain ⟨pt, hpt⟩ : ∃ pt, ps.getD ix 0 = pt := ⟨_, rfl⟩
                          obtain ⟨v0, hv0⟩ : ∃ v0, vs6.getD ix 0 = v0 := ⟨_, rfl⟩
                          have hcq := HR9.out.row.row.cell ix (by rw [HIL.out]; exact hixl)
                          rw [hpt] at hcq
                          have hg6 : chairs_Spread.adds V (b + 1 - (d + 1)) (a + k + (d + 1)) (vs6.set ix (v0 + V)) = G6 := by
                            have h := hG6.out
                            rw [show b + 1 - d = (b + 1 - (d + 1)) + 1 by omega] at h
                            simp only [chairs_Spread.adds] at h
                            rw [show a + k + d = ix by omega, hv0, show ix + 1 = a + k + (d + 1) by omega] at h
                            exact h
                          have hsum : v0 + V < 4294967296 := by
                            have h1 := (MSpread.adds_le V (b + 1 - (d + 1)) (a + k + (d + 1)) (vs6.set ix (v0 + V))).trans (by rw [hg6]; exact HLE6.out)
                            have h2 := h1.lt (by omega) HFB.out ix
                            rwa [show (vs6.set ix (v0 + V)).getD ix 0 = v0 + V by simp [List.getD_eq_getElem?_getD, hvl, hixl]] at h2
                          have hbd : Below wm.heap.size wm wm.drew := (Below.refl _ _).drew
                          have hRd := HR9.out.later (HJ.out _) hbd
                          have hnt := hRd.row.num ix (by rw [hvl]; exact hixl)
                          rw [hpt, hv0] at hnt
                          have hptm : pt ∈ ps := by rw [← hpt]; exact getD_mem (by rw [HIL.out]; exact hixl)
                          have HRD := Lib.hid hRd
                          have HNT := Lib.hid hnt
                          have HNZ := Lib.hid (HM9.out.below hbd)
                          have HNW2 := Lib.hid (HN9.out.below hbd)
                          have HZT : Hid (pz ≠ pt) := Lib.hid (fun e => HPZ.out (by rw [e]; exact hptm))
                          have HWT : Hid (pw ≠ pt) := Lib.hid (fun e => HPW.out (by rw [e]; exact hptm))
                          have HPT := Lib.hid hpt
                          have HV0 := Lib.hid hv0
                          have HVL := Lib.hid hvl
                          have HG6' := Lib.hid hg6
                          have HSUM := Lib.hid hsum
                          have e7 : (a : Int) + (k : Int) = (ak : Int) := by omega
                          have e8 : (ak : Int) + (d : Int) = (ix : Int) := by omega
                          have e9 : IntKind.i64.wrap (ak : Int) = (ak : Int) := IntWalk.i64_in _ (by omega)
                          have e10 : IntKind.i64.wrap (ix : Int) = (ix : Int) := IntWalk.i64_in _ (by omega)
                          have hix0 : (0 : Int) ≤ (ix : Int) := Int.natCast_nonneg _
                          have hix1 : (ix : Int) < (i : Int) := by omega
                          clear hak hix hvl hpt hv0 hg6 hG6 hsum hbd hRd hnt hptm
                          go_wp2_with fail
                          go_region_held3 (fun w' => w'.cell? ⟨q, ix, none⟩ = some (.pointer (some ⟨pt, 0, none⟩)))
                            (first | exact hcq | exact hcqE)
                            (first | (go_at_call 73; refine (Add_walk pt pz v0 V _ HNT.out HNZ.out HZT.out HSUM.out).mono ?_; rintro e w' ⟨rfl, hadd, hgr⟩; have hst := HRD.out.add (HJ.out _) HL.out.size (i := ix) (v := v0 + V) (by rw [HVL.out]; exact hixl) (by rw [HPT.out]; exact hgr) (by rw [HPT.out]; exact hadd); have HST := Lib.hid hst; have hcqE := hst.row.row.cell ix (by rw [HIL.out]; exact hixl); rw [HPT.out] at hcqE; have HNW3 := Lib.hid (HNW2.out.grown HNT.out.slot HWT.out hgr); have HNZ3 := Lib.hid (HNZ.out.grown HNT.out.slot HZT.out hgr); clear hst hadd hgr))
                          clear e7 e8 e9 e10
                          go_wp2
                          go_roundw
                          case rel => exact ⟨d + 1, _, by omega, by go_num, HST.out, HNW3.out, HNZ3.out, HG6'⟩
                          case measure => simp [intOf]; omega
                        · obtain rfl : d = b + 1 := by omega
                          have d6 : decide (((b + 1 : Nat) : Int) < (b : Int) + 1) = false := decide_eq_false (by omega)
                          have hg := hG6.out
                          rw [Nat.sub_self] at hg
                          obtain rfl : vs6 = G6 := hg
                          clear hG6 HG6
                          go_wp2
                          go_roundw
                          case rel => exact ⟨k + 1, vs6, by omega, by go_num, HR9.out, HN9.out, HG5'⟩
                          case measure => simp [intOf]; omega
                    · obtain rfl : k = ly := by omega
                      have d5 : decide ((k : Int) < (k : Int)) = false := decide_eq_false (by omega)
                      have hg := hG5.out
                      rw [List.drop_of_length_le (by rw [HLY.out]; exact Nat.le_refl _)] at hg
                      obtain rfl : vs5 = G5 := hg
                      clear hG5 HG5
                      go_wp2
                      go_roundw
                      case rel => exact ⟨a + 1, vs5, by omega, by go_num, HR6.out, HN6.out, HG4'⟩
                      case measure => simp [intOf]; omega
                · obtain rfl : a = lx := by omega
                  have d4 : decide ((a : Int) < (a : Int)) = false := decide_eq_false (by omega)
                  have hg := hG4.out
                  rw [List.drop_of_length_le (by rw [HLX.out]; exact Nat.le_refl _)] at hg
                  obtain rfl : vs4 = G4 := hg
                  clear hG4 HG4
                  go_wp2
                  go_roundw
                  case rel => exact ⟨b + 1, vs4, by omega, by go_num, HR5.out, HG3⟩
                  case measure => simp [intOf]; omega
            · obtain rfl : b = s := by omega
              have d3 : decide ((b : Int) < (b : Int)) = false := decide_eq_false (by omega)
              have hg := hG3.out
              rw [Nat.sub_self] at hg
              obtain rfl : vs = F := hg
              clear hG3 HST0
              obtain ⟨wz, rfl⟩ : ∃ wz : World, wz = wr := ⟨_, rfl⟩
              obtain ⟨vals, ho, hrv⟩ := HR3.out.kn HKN.out
              have hvl : vals.length = b := by have := ho.1; have := HLEN.out; omega
              rw [← hvl.trans HLEN.out.symm] at ho
              have HO := Lib.hid ho
              have HRV := Lib.hid hrv
              have HVL := Lib.hid hvl
              have hv46 : vals.length ≤ 10 := by omega
              clear ho hrv hvl
              go_upto_region 31 with (first | (at_builtin; go_loud (refine print_append (w0 := wz) W.heap.size rfl (.tmp 108) (.tmp 110) 78 65 (.slice none 0 0) 24 rfl Try.underlying78 info65 rfl (by omega) (.slice (some ⟨g, 0, none⟩) b cap) vals (.slice (some ⟨q, 0, none⟩) i i) rfl rfl rfl HO.out (Below.refl _ _) (Nat.le_trans HL.out.size HR3.out.below.size) (by omega) ?_); intro v1 w1 ho1 _ hg1 _; have HO1 := Lib.hid ho1; have HG1 := Lib.hid hg1; clear ho1 hg1))
              have hst := stp_of_own HO.out HG1.out
              have hkp := keep_of_own HO.out HG1.out
              have hrow : chairs_Spread.row (chairs_Spread.known (b - 1)) (b - 1 + 1) = vs := by rw [HROWS.out, show b - 1 + 1 = b by omega]; exact HF.out
              have hkn : KnV W.heap.size w1 v1 (chairs_Spread.known b) := by
                have h := KnV.snoc (by rw [← HVL.out.trans HLEN.out.symm]; exact HO.out) HRV.out (HR3.out.rowv i HIL.out) HG1.out HO1.out
                rw [show chairs_Spread.known b = rows ++ [vs] by rw [show b = b - 1 + 1 by omega, chairs_Spread.known, hrow, HROWS.out]]
                exact h
              have hbox : w1.heap[Bs]? = some (.cells #[.int .i64 (n : Int)] 3 (0, 0)) := by
                have h0 := HL.out.box
                have h1 := (HR3.out.below.block Bs (block_lt' h0)).trans h0
                refine (HG1.out.block Bs (block_lt' h1) fun e => ?_).trans h1
                obtain ⟨cells', hc⟩ := own_typed HO.out Bs e.symm
                rw [h1] at hc
                injection hc with hc
                injection hc with _ h2
                cases h2
              obtain ⟨g1, cap1, e1v⟩ := hkn.form (by rw [MSpread.known_length]; omega)
              rw [MSpread.known_length] at e1v
              subst e1v
              obtain ⟨fn, tmps, assign, body, hy, hR⟩ := HY.out (b - 1) (.slice (some ⟨q, 0, none⟩) i i) w1 (HJ.out _ _ _ HR3.out.j hst) (by omega) (by rw [hrow]; exact (HR3.out.rowv i HIL.out).keep hkp)
              have HKN1 := Lib.hid hkn
              have HBOX1 := Lib.hid hbox
              clear hst hkp hrow hkn hbox
              refine (wpIn_wide (n := 4)).1 ?_
              gi_wp2
              refine hR.mono ?_
              rintro e W3 ⟨rfl, hJ3, hk3⟩
              have hL3 : LSt W.heap.size J Bs n b (.slice (some ⟨g1, 0, none⟩) (b + 1) cap1) W3   := ⟨Nat.le_trans (Nat.le_trans (Nat.le_trans HL.out.size HR3.out.below.size) HG1.out.size) hk3.size, HKN1.out.kp hk3, by rwa [show b - 1 + 1 = b by omega] at hJ3, hk3.box.trans HBOX1.out⟩
              have HL3 := Lib.hid hL3
              clear hL3 hJ3 hk3 hR
              gi_wp2
              go_wp2
              go_roundw
              case rel => exact ⟨b + 1, g1, cap1, by omega, by omega, by go_num, rfl, HL3.out⟩
              case measure => simp [intOf]; omega
    · have d1 : decide ((s : Int) ≤ (n : Int)) = false := decide_eq_false (by omega)
      have hj := HL.out.j
      rw [show s - 1 = n by omega] at hj
      have HJ2 := Lib.hid hj
      clear hj
      go_wp2
      go_end0
      exact ⟨⟨_, rfl⟩, HJ2.out⟩
end Go.Proofs.Ytfopeenjpdaacaa.PC
end
section
/- A loop over the rows that the iterator hands out: what a round is told of the row it is given. -/
namespace Go.Proofs.Ytfopeenjpdaacaa.PC
open Go.RowKit Go.Proofs.YtfopeenjpdaacaaW.PrintWords Go.Proofs.YtfopeenjpdaacaaW.PrintLast Go.Proofs.YtfopeenjpdaacaaW.PrintMore
/-- how a round is left -/
def RPost (Bs k : Nat) (I : Nat → World → Prop) (B : Nat) (W : World) : Exit → Act → World → Prop
  | .normal, _, W' => KeepsFrom B W W' ∧ KpM Bs W W' ∧ I (k + 1) W'
  | _, _, _ => False
theorem KpM.trans {Bs : Nat} {A B C : World} (h : KpM Bs A B) (k : KpM Bs B C) : KpM Bs A C :=
  ⟨Nat.le_trans h.size k.size, k.box.trans h.box, fun r cells t hr ht => by
    have h1 := h.same r cells t hr ht
    exact (k.same r cells t (h1.trans hr) ht).trans h1⟩
theorem KpM.put {Bs l : Nat} {W : World} {o o' : Obj} (hl : W.heap[l]? = some o) (hc : o.isCells = false) (hne : Bs ≠ l) : KpM Bs W (W.putObj l o') :=
  ⟨by simp, World.putObj_heap_other hne, fun r cells t hr _ => World.putObj_heap_other (by
    rintro rfl
    rw [hr] at hl
    cases hl
    cases hc)⟩
theorem RowV.put {W : World} {l : Nat} {o o' : Obj} {v : Value} {vs : List Nat} (h : RowV W v vs) (hl : W.heap[l]? = some o) (hc : o.isCells = false) : RowV (W.putObj l o') v vs :=
  h.keep fun r cells t hr _ => World.putObj_heap_other (by
    rintro rfl
    rw [hr] at hl
    cases hl
    cases hc)
theorem Stp.lower {B0 B1 : Nat} {A B : World} (h : Stp B1 A B) (hb : B0 ≤ B1) : Stp B0 A B := by
  obtain ⟨row, hg, hr⟩ := h
  exact ⟨row, hg, fun r e => ⟨Nat.le_trans hb (hr r e).1, (hr r e).2⟩⟩
theorem range_rows {g : Operand} {ps : Array Tmp} {assign body : Code} {Q : Exit → Act → World → Prop} {a : Act} {w : World} (Bs n : Nat) (hn : n ≤ 10)
    (hg : a.eval g = .func (.func 69) #[] #[.pointer (some ⟨Bs, 0, none⟩)]) (hps : ps.size = 1)
    (hB : w.heap[Bs]? = some (.cells #[.int .i64 (n : Int)] 3 (0, 0)))
    (I : Nat → World → Prop) (hI : ∀ k, Stable w.heap.size (I k)) (hIo : ∀ (k : Nat) (W : World) (l : Nat) (o o' : Obj), w.heap.size ≤ l → W.heap[l]? = some o → o.isCells = false → I k W → I k (W.putObj l o')) (h0 : I 0 w) (a₁ : Value → Act)
    (hassign : ∀ (l : Nat) (v : Value) (W : World) (K : Act → World → Prop), K (a₁ v) W →
      assign.wpIn (Fence.wide.inRound l) 3 Try.prog (Exit.then K (fun _ _ _ => False)) { tmps := (ps.zip #[v]).foldl (fun t (p, v) => t.setIfInBounds p v) a.tmps, defers := [] } W)
    (hbody : ∀ (l k : Nat) (v : Value) (W : World), I k W → w.heap.size ≤ W.heap.size → k < n → RowV W v (chairs_Spread.row (chairs_Spread.known k) (k + 1)) → body.wpIn (Fence.wide.inRound l) 3 Try.prog (RPost Bs k I w.heap.size W) (a₁ v) W)
    (hdone : ∀ (D : Nat) (W : World), w.heap.size ≤ D → I n W → W.heap[D]? = some (.deferred (some [])) → Q .normal { a with defers := { target := .collected D, args := #[] } :: a.defers } W) :
    (Code.rangeFunc g ps assign body).wpIn Fence.wide 5 Try.prog Q a w := by
  refine wpIn_rangeFunc ?_
  intro fn hfn
  -- the loop's record, in its states
  let rec_ : LoopState → Loop := fun st => { state := st, pending := none, fn := fn, tmps := a.tmps, params := ps, assign := assign, body := body, defers := w.heap.size }
  have hBlt := block_lt' hB
  obtain ⟨L, hL⟩ : ∃ L, w.heap.size + 1 = L := ⟨_, rfl⟩
  obtain ⟨W1, hW1⟩ : ∃ W1, (w.alloc (.deferred (some []))).alloc (.loop (rec_ .ready)) = W1 := ⟨_, rfl⟩
  have hb1 : Below w.heap.size w W1 := by rw [← hW1]; exact ((Below.refl _ w).alloc (Nat.le_refl _) _).alloc (by simp) _
  have hloop : W1.heap[L]? = some (.loop (rec_ .ready)) := by
    rw [← hW1, ← hL]
    have := World.alloc_heap_new (w.alloc (.deferred (some []))) (.loop (rec_ .ready))
    rwa [World.size_alloc] at this
  have hdef : W1.heap[w.heap.size]? = some (.deferred (some [])) := by
    rw [← hW1]
    exact (Below.heap_alloc _ _ _ (by simp)).trans (World.alloc_heap_new w _)
  refine ⟨L, [{ target := .collected w.heap.size, args := #[] }], W1, { target := .fn (.func 69) #[.pointer (some ⟨Bs, 0, none⟩)], args := #[.func (.yield L) #[] #[]] }, W1, 69,
    #[.func (.yield L) #[] #[], .pointer (some ⟨Bs, 0, none⟩)], W1, ?_, ?_, fun _ _ => trivial, ?_, fun _ => by omega, ?_⟩
  · rw [← hW1, ← hL]
    exact run_enterLoop_outer _ _ _ _ _
  · simp only [resolve, hg]
    simp [go_sem]
  · have eg : ∀ args w, (callFunc 69 args).run Try.prog w = .ok (.enter 69 args) w := Go.Proofs.enters_of Try.func69 (by kernel_rfl) rfl
    simp [invoke, go_sem, eg]
  -- the iterator's contract, the record and the block for deferred calls beside the caller's own invariant
  have stp_keeps : ∀ {A B : World} {k : Nat} {o : Obj}, Stp w.heap.size A B → A.heap[k]? = some o → o.isCells = false → B.heap[k]? = some o := by
    rintro A B k o ⟨row, hgr, hrow⟩ hk hc
    refine (hgr.block k (block_lt' hk) fun e => ?_).trans hk
    obtain ⟨_, cells, t, hx, _⟩ := hrow k e.symm
    rw [hk] at hx
    cases hx
    cases hc
  refine (moves_in L Bs n hn W1 (fun k W => I k W ∧ W.heap[L]? = some (.loop (rec_ .ready)) ∧ W.heap[w.heap.size]? = some (.deferred (some [])))
    (fun k A B hA hst => by
      have hst := hst.lower hb1.size
      exact ⟨hI k A B hA.1 hst, stp_keeps hst hA.2.1 rfl, stp_keeps hst hA.2.2 rfl⟩)
    ((hb1.block Bs hBlt).trans hB) ?_ ⟨hI 0 _ _ h0 (.of_below hb1), hloop, hdef⟩).mono ?_
  · rintro k v W ⟨hi, hl, hd⟩ hk hrow
    have hy := run_yield (P := Try.prog) (args := #[v]) hl (by show (1 : Nat) = ps.size; rw [hps])
    obtain ⟨W2, hW2⟩ : ∃ W2, W.putObj L (.loop { rec_ .ready with state := .busy }) = W2 := ⟨_, rfl⟩
    have hlt := block_lt' hl
    have hl2 : W2.heap[L]? = some (.loop (rec_ .busy)) := by rw [← hW2]; exact World.putObj_heap_same hlt
    have hd2 : W2.heap[w.heap.size]? = some (.deferred (some [])) := by rw [← hW2]; exact (World.putObj_heap_other (by omega)).trans hd
    have hi2 : I k W2 := by rw [← hW2]; exact hIo k W L _ _ (by omega) hl rfl hi
    have hk2 : KpM Bs W W2 := by rw [← hW2]; exact KpM.put hl rfl (by omega)
    have hr2 : RowV W2 v (chairs_Spread.row (chairs_Spread.known k) (k + 1)) := by rw [← hW2]; exact hrow.put hl rfl
    refine ⟨fn, _, assign, body, hy, roundIn_of_wpIn trivial (hassign L v W _ ⟨W2, by rw [← hW2]; exact run_beginRound hl rfl, ?_⟩)⟩
    refine wpIn_mono (hbody L k v W2 hi2 (by have := block_lt' hl2; omega) hk hr2) ?_
    rintro e a3 W3 hp
    cases e with
    | normal =>
      obtain ⟨hf, hk3, hi3⟩ := hp
      have hl3 := hf.same L _ (by omega) hl2 rfl
      have hd3 := hf.same w.heap.size _ (Nat.le_refl _) hd2 rfl
      refine ⟨_, _, run_endRound (P := Try.prog) none hl3, rfl, ⟨hIo _ W3 L _ _ (by omega) hl3 rfl hi3, World.putObj_heap_same (block_lt' hl3), (World.putObj_heap_other (by omega)).trans hd3⟩, ?_⟩
      exact (hk2.trans hk3).trans (KpM.put hl3 rfl (by omega))
    | _ => exact hp.elim
  · rintro e W2 ⟨⟨v, rfl⟩, hi, hl, hd⟩
    exact ⟨none, _, run_endLoop (P := Try.prog) hl (by simp [rec_]), hdone w.heap.size _ (Nat.le_refl _) (hIo n W2 L _ _ (by omega) hl rfl hi) ((World.putObj_heap_other (by omega)).trans hd)⟩
end Go.Proofs.Ytfopeenjpdaacaa.PC
end
section
/- Spread: the last row that the iterator hands out. -/
namespace Go.Proofs.Ytfopeenjpdaacaa.PC
open Go.RowKit Go.Proofs.YtfopeenjpdaacaaW.PrintWords Go.Proofs.YtfopeenjpdaacaaW.PrintLast Go.Proofs.YtfopeenjpdaacaaW.PrintMore
attribute [local go_sem] Oper.semAt_some
/-- what is in the caller's variable when k rows are over -/
def rowI : Nat → List Int
  | 0 => []
  | k + 1 => (chairs_Spread.row (chairs_Spread.known k) (k + 1)).map fun x : Nat => (x : Int)
/-- what the caller holds between the rounds -/
structure CSt (n₀ Bo Bs : Nat) (w : World) (xs : List Int) (W : World) : Prop where
  own : ∃ v, Boxed W Bo 22 v ∧ W.ownsRow (Bs + 1) 3 1 v xs.length (nums .i64 xs)
  below : Below n₀ w W
theorem CSt.stable {n₀ Bo Bs B0 : Nat} {w : World} {xs : List Int} (hB : n₀ ≤ B0) (hw : n₀ ≤ w.heap.size) : Stable B0 (CSt n₀ Bo Bs w xs) := by
  rintro A B ⟨⟨v, hv, ho⟩, hb⟩ ⟨row, hg, hr⟩
  have keep : ∀ (k : Nat) (cells : Array Value) (t : Nat), A.heap[k]? = some (.cells cells t (0, 0)) → t ≠ 65 → t ≠ 66 → t ≠ 82 → B.heap[k]? = A.heap[k]? := fun k cells t hk h1 h2 h3 => by
    refine hg.block k (block_lt' hk) fun e => ?_
    obtain ⟨_, cells', t', hx, ht⟩ := hr k e.symm
    rw [hk] at hx
    injection hx with hx
    injection hx with _ h4
    subst h4
    rcases ht with ht | ht | ht
    · exact h1 ht
    · exact h2 ht
    · exact h3 ht
  refine ⟨⟨v, (keep _ _ _ hv (by decide) (by decide) (by decide)).trans hv, own_move ho fun k hk => ?_⟩, ?_⟩
  · obtain ⟨cells, hc⟩ := own_typed ho k hk
    exact keep k cells 3 hc (by decide) (by decide) (by decide)
  · refine ⟨hg.os.trans hb.os, hg.tape.trans hb.tape, hg.output.trans hb.output, Nat.le_trans hb.size hg.size, fun k hk => (hg.block k (by have := hb.size; omega) fun e => ?_).trans (hb.block k hk)⟩
    have := (hr k e.symm).1
    omega
theorem CSt.put {n₀ Bo Bs l : Nat} {w W : World} {xs : List Int} {o o' : Obj} (h : CSt n₀ Bo Bs w xs W) (hn : n₀ ≤ l) (hl : W.heap[l]? = some o) (hc : o.isCells = false) : CSt n₀ Bo Bs w xs (W.putObj l o') := by
  obtain ⟨⟨v, hv, ho⟩, hb⟩ := h
  have keep : ∀ (k : Nat) (cells : Array Value) (t : Nat), W.heap[k]? = some (.cells cells t (0, 0)) → (W.putObj l o').heap[k]? = W.heap[k]? := fun k cells t hk => World.putObj_heap_other (by
    rintro rfl
    rw [hk] at hl
    cases hl
    cases hc)
  refine ⟨⟨v, (keep _ _ _ hv).trans hv, own_move ho fun k hk => ?_⟩, ?_⟩
  · obtain ⟨cells, hx⟩ := own_typed ho k hk
    exact keep k cells 3 hx
  · have hg := grownBy_putObj' W l o'
    exact ⟨hg.os.trans hb.os, hg.tape.trans hb.tape, hg.output.trans hb.output, Nat.le_trans hb.size hg.size, fun k hk => (World.putObj_heap_other (by omega)).trans (hb.block k hk)⟩
/-- the state when j numbers of the row are over -/
structure RI (n₀ : Nat) (w : World) (B : Nat) (F : List Nat) (W : World) (j : Nat) (wr : World) : Prop where
  own : ∃ v, Boxed wr n₀ 22 v ∧ wr.ownsRow (n₀ + 2) 3 1 v ((F.take j).map fun x : Nat => (x : Int)).length (nums .i64 ((F.take j).map fun x : Nat => (x : Int)))
  below : Below n₀ w wr
  kp : KpM (n₀ + 1) W wr
  kf : KeepsFrom B W wr
theorem RI.keeps {n₀ B j : Nat} {w W wr : World} {F : List Nat} (h : RI n₀ w B F W j wr) : Keep65 W wr := fun r cells t hr ht => h.kp.same r cells t hr (.inr ht)
theorem info3' : (Try.prog.info? 3).map (fun i => (i.zero, i.size, i.bytes)) = some (some (.int .i64 0), 1, 8) := by kernel_rfl
theorem take_snoc (F : List Nat) (j : Nat) (hj : j < F.length) : (F.take (j + 1)).map (fun x : Nat => (x : Int)) = (F.take j).map (fun x : Nat => (x : Int)) ++ [((F.getD j 0 : Nat) : Int)] := by
  rw [List.take_succ_eq_append_getElem hj, List.map_append]
  simp [List.getD_eq_getElem?_getD, hj]
/-- a step of the caller's: it writes its own variable, or its own row -/
theorem RI.step {n₀ B j : Nat} {w W wr w2 w1 : World} {F : List Nat} {vj v1 : Value} {xs ys : List Int} (h : RI n₀ w B F W j wr) (hv : Boxed wr n₀ 22 vj) (ho : wr.ownsRow (n₀ + 2) 3 1 vj xs.length (nums .i64 xs)) (h2 : Below wr.heap.size wr w2) (hg : w2.grownBy w1 vj.ownBlock)
    (ho1 : w1.ownsRow (n₀ + 2) 3 1 v1 ys.length (nums .i64 ys)) (hy : ys = (F.take (j + 1)).map (fun x : Nat => (x : Int))) (hn : n₀ + 1 < wr.heap.size) : RI n₀ w B F W (j + 1) (w1.setCell ⟨n₀, 0, none⟩ v1) := by
  have ho2 := pw_own_below ho h2
  have hz := h2.size
  -- blocks that are no own row stay
  have keep1 : ∀ k, k < w2.heap.size → vj.ownBlock ≠ some k → w1.heap[k]? = w2.heap[k]? := fun k hk hne => hg.block k hk (fun e => hne e.symm)
  have hv2 : w2.heap[n₀]? = some (.cells #[vj] 22 (0, 0)) := (h2.block n₀ (by omega)).trans hv
  have hne : vj.ownBlock ≠ some n₀ := fun e => by have := own_base ho n₀ e; omega
  have hv1 : w1.heap[n₀]? = some (.cells #[vj] 22 (0, 0)) := (keep1 n₀ (by omega) hne).trans hv2
  have keep2 : ∀ k, k ≠ n₀ → (w1.setCell ⟨n₀, 0, none⟩ v1).heap[k]? = w1.heap[k]? := fun k hk => Below.heap_setCell w1 _ v1 k hk
  have hsz : (w1.setCell ⟨n₀, 0, none⟩ v1).heap.size = w1.heap.size := by simp
  have keepT : ∀ (r : Nat) (cells : Array Value) (t : Nat), wr.heap[r]? = some (.cells cells t (0, 0)) → t ≠ 3 → t ≠ 22 → (w1.setCell ⟨n₀, 0, none⟩ v1).heap[r]? = wr.heap[r]? := fun r cells t hr h3 h22 => by
    have hlt := block_lt' hr
    have e1 : r ≠ n₀ := by
      rintro rfl
      have hv' : wr.heap[r]? = some (.cells #[vj] 22 (0, 0)) := hv
      rw [hr] at hv'
      injection hv' with hv'
      injection hv' with _ h4
      exact h22 h4
    have e2 : vj.ownBlock ≠ some r := fun e => by
      obtain ⟨cells', hc⟩ := own_typed ho r e
      rw [hr] at hc
      injection hc with hc
      injection hc with _ h4
      exact h3 h4
    exact ((keep2 r e1).trans (keep1 r (by omega) e2)).trans (h2.block r hlt)
  have keepO : ∀ (r : Nat) (o : Obj), wr.heap[r]? = some o → o.isCells = false → (w1.setCell ⟨n₀, 0, none⟩ v1).heap[r]? = some o := fun r o hr hc => by
    have hlt := block_lt' hr
    have e1 : r ≠ n₀ := by
      rintro rfl
      rw [show wr.heap[r]? = _ from hv] at hr
      cases hr
      cases hc
    have e2 : vj.ownBlock ≠ some r := fun e => by
      obtain ⟨cells', hx⟩ := own_typed ho r e
      rw [hr] at hx
      cases hx
      cases hc
    exact (((keep2 r e1).trans (keep1 r (by omega) e2)).trans (h2.block r hlt)).trans hr
  refine ⟨⟨v1, heap_set hv1 v1, ?_⟩, ?_, ⟨?_, ?_, ?_⟩, ⟨?_, ?_⟩⟩
  · rw [← hy]
    refine own_move ho1 fun k hk => keep2 k (fun e => ?_)
    have := own_base ho1 k hk
    omega
  · have hb := h.below
    refine ⟨by show w1.os = w.os; exact (hg.os.trans h2.os).trans hb.os, by show w1.tape = w.tape; exact (hg.tape.trans h2.tape).trans hb.tape, by show w1.output = w.output; exact (hg.output.trans h2.output).trans hb.output, by rw [hsz]; exact Nat.le_trans (Nat.le_trans hb.size h2.size) hg.size, fun k hk => ?_⟩
    exact (((keep2 k (by omega)).trans (keep1 k (by omega) (fun e => by have := own_base ho k e; omega))).trans (h2.block k (by omega))).trans (hb.block k hk)
  · rw [hsz]; exact Nat.le_trans (Nat.le_trans h.kp.size h2.size) hg.size
  · exact (((keep2 _ (by omega)).trans (keep1 _ (by omega) (fun e => by have := own_base ho _ e; omega))).trans (h2.block _ hn)).trans h.kp.box
  · intro r cells t hr ht
    have h1 := h.kp.same r cells t hr ht
    refine (keepT r cells t (h1.trans hr) ?_ ?_).trans h1
    · rintro rfl; rcases ht with ht | ht | ht | ht <;> cases ht
    · rintro rfl; rcases ht with ht | ht | ht | ht <;> cases ht
  · rw [hsz]; exact Nat.le_trans (Nat.le_trans h.kf.size h2.size) hg.size
  · intro k o hB hk hc
    exact keepO k o (h.kf.same k o hB hk hc) hc
theorem RI.start {n₀ B : Nat} {w W : World} {F : List Nat} {v0 : Value} (hv : Boxed W n₀ 22 v0) (hb : Below n₀ w W) : RI n₀ w B F W 0 (W.setCell ⟨n₀, 0, none⟩ (.slice none 0 0)) := by
  have hv' : W.heap[n₀]? = some (.cells #[v0] 22 (0, 0)) := hv
  have keep2 : ∀ k, k ≠ n₀ → (W.setCell ⟨n₀, 0, none⟩ (.slice none 0 0)).heap[k]? = W.heap[k]? := fun k hk => Below.heap_setCell W _ _ k hk
  refine ⟨⟨_, heap_set hv' _, own_nil _ _ _ _⟩, hb.setCell (p := ⟨n₀, 0, none⟩) (Nat.le_refl _) _, ⟨by simp, keep2 _ (by omega), fun r cells t hr ht => keep2 r ?_⟩, ⟨by simp, fun k o _ hk hc => (keep2 k ?_).trans hk⟩⟩
  · rintro rfl
    rw [hr] at hv'
    injection hv' with hv'
    injection hv' with _ h4
    subst h4
    rcases ht with ht | ht | ht | ht <;> cases ht
  · rintro rfl
    rw [hv'] at hk
    cases hk
    cases hc
/-- an append at its place in a region that draws its order -/
theorem append_in {F : Fence} {n : Nat} {P : Program} {ops : Array Oper} {o : Oper} {a : Act} {w w1 : World} {K : Act → World → Prop} {Q : Exit → Act → World → Prop} {X : Prop} (hw : Region.wanted o (yielded ops a.tmps) = true) (s x : Operand) (t : TypeId)
    (ho : o.op = .call { callee := .builtin .append, args := #[s, x], argTypes := #[t, t] }) {v y v1 : Value} (hs : a.eval s = v) (hx : a.eval x = y) (hr : (Builtin.append_ #[t, t] o.type #[v, y]).run P w = .ok v1 w1) (hk : K (a.put o.dst v1) w1) :
    if Region.wanted o (yielded ops a.tmps) = true then Oper.wpIn F n P o a w K Q else X := by
  rw [if_pos hw]
  unfold Oper.wpIn
  refine ⟨by simp [Oper.about, ho, resolve, Target.leads, Sem.run_pure], ?_⟩
  rw [Oper.semAt_plain F _ _ (by rw [ho]; intro c hc'; cases hc')]
  simp [execOp, ho, resolve, invoke, builtin, hs, hx, hr, Result.andThen]
  exact hk
theorem moves_make (F : Fence) (m : Nat) (h5 : F.fn 56) (hro : F.round = none) (n : Int) (w : World) :
    CallsIn F m Try.prog 56 #[.int .i64 n] w fun e w' => e = .returned (.func (.func 69) #[] #[.pointer (some ⟨w.heap.size, 0, none⟩)]) ∧ w' = w.alloc (.cells #[.int .i64 n] 3) := by
  refine callsIn_of_wp Try.func56 rfl h5 ?_ hro
  simp only [Try.ntmps56, List.size_toArray, List.length_cons, List.length_nil, Nat.reduceAdd, Nat.reduceSub, Array.replicate_succ, Array.replicate_zero, List.push_toArray, List.append_toArray, List.nil_append, List.cons_append]
  gi_wp2
  go_ret
  exact ⟨rfl, rfl⟩
set_option maxRecDepth 1000000 in
set_option maxHeartbeats 4000000 in
theorem spread_walk (n : Nat) (hn1 : 1 ≤ n) (hn : n ≤ 10) (w : World) :
    Calls Try.prog 24 #[.int .i64 (n : Int)] w fun e w' => ∃ v0_ : Value, e = .returned (.tuple #[v0_, .int .i64 0]) ∧ Kd.R (Kd.int .i64) 3 w' w.heap.size (fun _ => True) v0_ (rowI n) ∧ Below w.heap.size w w' := by
  have d1 : decide ((n : Int) < 1) = false := decide_eq_false (by omega)
  have d2 : decide ((10 : Int) < (n : Int)) = false := decide_eq_false (by omega)
  refine (callsIn_wide (n := 5)).1 ?_
  refine callsIn_of_wp_marks Try.func24 rfl trivial ?_ rfl
  simp only [Try.ntmps24, List.size_toArray, List.length_cons, List.length_nil, Nat.reduceAdd, Nat.reduceSub, Array.replicate_succ, Array.replicate_zero, List.push_toArray, List.append_toArray, List.nil_append, List.cons_append]
  gi_wp2_with (refine ⟨trivial, ?_⟩; gi_at_call 56; refine (moves_make Fence.wide (5 - 1) trivial rfl _ _).mono ?_; rintro e w' ⟨rfl, rfl⟩)
  obtain ⟨n₀, hn₀⟩ : ∃ n₀, w.heap.size = n₀ := ⟨_, rfl⟩
  obtain ⟨W1, hW1⟩ : ∃ W1, (w.alloc (.cells #[.slice none 0 0] 22)).alloc (.cells #[.int .i64 (n : Int)] 3) = W1 := ⟨_, rfl⟩
  have hb1 : Below n₀ w W1 := by rw [← hW1, ← hn₀]; exact ((Below.refl _ w).alloc (Nat.le_refl _) _).alloc (by simp) _
  have hs1 : W1.heap.size = n₀ + 2 := by rw [← hW1, ← hn₀]; simp
  have hBo : Boxed W1 n₀ 22 (.slice none 0 0) := by rw [← hW1, ← hn₀]; exact (Boxed.new w 22 _).alloc _
  have hBs : W1.heap[n₀ + 1]? = some (.cells #[.int .i64 (n : Int)] 3 (0, 0)) := by
    rw [← hW1, ← hn₀]
    have := heap_alloc_new (w.alloc (.cells #[.slice none 0 0] 22)) (.cells #[.int .i64 (n : Int)] 3)
    rwa [World.size_alloc] at this
  have h0 : CSt n₀ n₀ (n₀ + 1) w (rowI 0) W1 := ⟨⟨_, hBo, own_nil _ _ _ _⟩, hb1⟩
  rw [hW1]
  simp only [hn₀]
  refine range_rows (n₀ + 1) n hn rfl rfl hBs (fun k => CSt n₀ n₀ (n₀ + 1) w (rowI k)) (fun k => CSt.stable (by omega) (by omega)) (fun k W l o o' hl ho hc h => h.put (by omega) ho hc) h0 (fun v => { tmps := #[.int .i64 (n : Int), undef, .slice none 0 0, .int .i64 0, .pointer (some ⟨n₀, 0, none⟩), v, undef, undef, .int .i64 (n : Int), .bool false, .bool false, .int .i64 (n : Int), .bool false, .bool false, .int .i64 (n : Int), .func (.func 69) #[] #[.pointer (some ⟨n₀ + 1, 0, none⟩)], v, undef, undef, undef, undef, undef, undef, undef, undef, undef, undef, undef, undef, undef], defers := [] }) ?assign ?body ?done
  case assign =>
    intro l v W K hK
    gi_wp2
    exact hK
  case body =>
    intro l k v W hI hsW hk hrow
    obtain ⟨q, ps, rfl, hnr⟩ := hrow
    obtain ⟨⟨v0, hv, ho⟩, hb⟩ := hI
    obtain ⟨F, hF⟩ : ∃ F, chairs_Spread.row (chairs_Spread.known k) (k + 1) = F := ⟨_, rfl⟩
    rw [hF] at hnr ⊢
    obtain ⟨m, hm⟩ : ∃ m, F.length = m := ⟨_, rfl⟩
    rw [hm]
    have hvc := hv.cell
    have hvf := hv.frozen
    have HNR := Lib.hid hnr
    have HV := Lib.hid hv
    have HB := Lib.hid hb
    have HF := Lib.hid hF
    have HM := Lib.hid hm
    have hmb : m ≤ 46 := by rw [← HM.out, ← HF.out]; exact MSpread.row_len (by omega)
    clear hnr hv ho hb hF hm
    have hR0 : RI n₀ w W1.heap.size F W 0 (W.setCell ⟨n₀, 0, none⟩ (.slice none 0 0)) := RI.start HV.out HB.out
    have HR0 := Lib.hid hR0
    clear hR0
    gi_wp2
    gi_loopw [19] (fun t wr => ∃ j : Nat, j ≤ m ∧ t = .int .i64 (j : Int) ∧ RI n₀ w W1.heap.size F W j wr) (fun t _ => m - (intOf t).toNat)
    case atStart => exact ⟨0, by omega, rfl, HR0.out⟩
    case round =>
      obtain ⟨j, hj, rfl, hR⟩ := hrel
      have HR := Lib.hid hR
      clear hR
      by_cases hlt : j < m
      · have d3 : decide ((j : Int) < (m : Int)) = true := decide_eq_true (by omega)
        obtain ⟨vj, hvj, hoj⟩ := HR.out.own
        have hNr := HNR.out.keep HR.out.keeps
        have hcj := hNr.row.cell j (by rw [hNr.len, HM.out]; exact hlt)
        have hnj := hNr.num j (by rw [HM.out]; exact hlt)
        obtain ⟨x, hx⟩ : ∃ x, F.getD j 0 = x := ⟨_, rfl⟩
        obtain ⟨p, hp⟩ : ∃ p, ps.getD j 0 = p := ⟨_, rfl⟩
        rw [hp] at hcj
        rw [hx, hp] at hnj
        have hcell := hvj.cell
        have hfro := hvj.frozen
        have HVJ := Lib.hid hvj
        have HOJ := Lib.hid hoj
        have HNJ := Lib.hid hnj
        have HX := Lib.hid hx
        have hq : n₀ < wr.heap.size := by
          have h := hvj
          exact block_lt' h
        have hq1 : n₀ + 1 < wr.heap.size := by have := HR.out.kp.size; omega
        have hca : ∀ nd : Nat, ((wr.drewN nd).alloc (.cells #[.int .i64 (x : Int)] 3)).cell? ⟨n₀, 0, none⟩ = some vj := fun nd => by
          rw [World.cell?_alloc_past _ _ _ (show n₀ < (wr.drewN nd).heap.size from hq)]
          exact hcell
        have HCA := Lib.hid hca
        clear hca
        have hint : CallsIn (Fence.wide.inRound l) 2 Try.prog 57 #[.pointer (some ⟨p, 0, none⟩)] wr.drew fun e w' => e = .returned (.int .i64 (x : Int)) ∧ ∃ nd2 : Nat, w' = wr.drew.drewN nd2 := by
          have h := callsIn_wide (n := 2) |>.2 (Int64_walk p x wr.drew (hnj.below ((Below.refl _ _).drew)))
          exact CallsIn.mono h fun e w' ⟨h1, ⟨h2⟩⟩ => ⟨h1, h2⟩
        have HINT := Lib.hid hint
        clear hvj hoj hNr hnj hx hp hint
        gi_wp2
        have happ : ∀ nd2 : Nat, ∃ A1 n1 c1 w1, (Builtin.append_ #[22, 22] 22 #[vj, .slice (some ⟨wr.heap.size, 0, none⟩) 1 1]).run Try.prog ((wr.drewN nd2).alloc (.cells #[.int .i64 (x : Int)] 3)) = .ok (.slice A1 n1 c1) w1 ∧ w1.cell? ⟨n₀, 0, none⟩ = some vj ∧ w1.frozen? ⟨n₀, 0, none⟩ = false ∧ RI n₀ w W1.heap.size F W (j + 1) (w1.setCell ⟨n₀, 0, none⟩ (.slice A1 n1 c1)) := by
          intro nd2
          have hb2 : Below wr.heap.size wr (wr.drewN nd2) := pw_below_drewN (Below.refl _ _) _
          have hb3 : Below wr.heap.size wr ((wr.drewN nd2).alloc (.cells #[.int .i64 (x : Int)] 3)) := hb2.alloc hb2.size _
          have ho3 := pw_own_below HOJ.out hb3
          obtain ⟨i0, hi0, hzz⟩ := Option.map_eq_some_iff.1 info3'
          simp only [Prod.mk.injEq] at hzz
          obtain ⟨hz0, hz1, hz2⟩ := hzz
          have hjl : ((F.take j).map fun x : Nat => (x : Int)).length ≤ 46 := by rw [List.length_map, List.length_take]; omega
          obtain ⟨v1, w1, hr, h2, h3, _, h5⟩ := run_append_own_at (P := Try.prog) ((wr.drewN nd2).alloc (.cells #[.int .i64 (x : Int)] 3)) (n₀ + 2) 22 22 3 i0 (.int .i64 0) 1 8 Try.underlying22 hi0 hz0 hz1 hz2 rfl (by omega) vj _ _ ho3 ⟨wr.heap.size, 0, none⟩ 1 1 [.int .i64 (x : Int)] rfl
            (World.news_of_block (cs := #[.int .i64 (x : Int)]) (t := 3) (fr := (0, 0)) (heap_alloc_new (wr.drewN nd2) _)) (by simp [Value.oneCell']) (by simp only [maxLen]; omega) (by omega) (by have := HR.out.below.size; have := hb3.size; omega)
          have hv2 : ((wr.drewN nd2).alloc (.cells #[.int .i64 (x : Int)] 3)).heap[n₀]? = some (.cells #[vj] 22 (0, 0)) := (hb3.block n₀ hq).trans HVJ.out
          have hne : vj.ownBlock ≠ some n₀ := fun e => by have := own_base HOJ.out n₀ e; omega
          have hv1 := (h3.block n₀ (block_lt' hv2) (fun e => hne e.symm)).trans hv2
          have hsn := take_snoc F j (by rw [HM.out]; exact hlt)
          rw [HX.out] at hsn
          obtain ⟨A1, c1, e1⟩ := own_slice h2
          subst e1
          refine ⟨_, _, _, w1, hr, by simp [World.cell?, hv1], by simp [World.frozen?, hv1], ?_⟩
          refine RI.step HR.out HVJ.out HOJ.out hb3 h3 (ys := (F.take j).map (fun x : Nat => (x : Int)) ++ [(x : Int)]) ?_ hsn.symm hq1
          have e1 : nums .i64 ((F.take j).map (fun x : Nat => (x : Int))) ++ [.int .i64 (x : Int)] = nums .i64 ((F.take j).map (fun x : Nat => (x : Int)) ++ [(x : Int)]) := by simp [nums]
          rw [e1] at h2
          rw [List.length_append]
          exact h2
        have HAPP := Lib.hid happ
        clear happ
        refine wpIn_region_any (by kernel_rfl) ?_
        change wpAnyIn _ _ _ _ _ _ _ _ _ wr.drew
        refine wpAnyIn_ready (rs := [0, 1]) (by kernel_rfl) (by simp) ?_
        refine AllReadyIn.cons rfl (fun K hK => ?_) (AllReadyIn.cons rfl (fun K hK => ?_) AllReadyIn.nil)
        · go_simp
          refine hK _ _ ?_
          clear hK K
          refine wpAnyIn_ready (rs := [1]) (by kernel_rfl) (by simp) ?_
          refine AllReadyIn.cons rfl (fun K hK => ?_) AllReadyIn.nil
          go_simp
          refine hK _ _ ?_
          clear hK K
          refine wpAnyIn_ready (rs := [2]) (by kernel_rfl) (by simp) ?_
          refine AllReadyIn.cons rfl (fun K hK => ?_) AllReadyIn.nil
          go_simp
          refine ⟨trivial, ?_⟩
          refine HINT.out.mono ?_
          rintro e w' ⟨rfl, nd2, rfl⟩
          have hcA := HCA.out (1 + nd2)
          go_simp
          refine hK _ _ ?_
          clear hK K
          refine wpAnyIn_ready (rs := [3]) (by kernel_rfl) (by simp) ?_
          refine AllReadyIn.cons rfl (fun K hK => ?_) AllReadyIn.nil
          go_simp
          refine hK _ _ ?_
          clear hK K
          obtain ⟨A1, n1, c1, w1, hrun, hc1, hf1, hri⟩ := HAPP.out (1 + nd2)
          refine wpAnyIn_ready (rs := [4]) (by kernel_rfl) (by simp) ?_
          refine AllReadyIn.cons rfl (fun K hK => ?_) AllReadyIn.nil
          refine append_in (v := vj) (y := .slice (some ⟨wr.heap.size, 0, none⟩) 1 1) (v1 := .slice A1 n1 c1) (w1 := w1) (by rfl) (.tmp 23) (.tmp 26) 22 rfl rfl rfl hrun ?_
          refine hK _ _ ?_
          clear hK K hrun
          refine wpAnyIn_ready (rs := [5]) (by kernel_rfl) (by simp) ?_
          refine AllReadyIn.cons rfl (fun K hK => ?_) AllReadyIn.nil
          go_simp
          refine hK _ _ ?_
          clear hK K
          refine wpAnyIn_done (by kernel_rfl) ?_ _
          have HRI := Lib.hid hri
          clear hri
          gi_wp2
          go_roundw
          case rel => exact ⟨j + 1, by omega, by go_num, HRI.out⟩
          case measure => simp [intOf]; omega
        · go_simp
          refine hK _ _ ?_
          clear hK K
          refine wpAnyIn_ready (rs := [0, 2]) (by kernel_rfl) (by simp) ?_
          refine AllReadyIn.cons rfl (fun K hK => ?_) (AllReadyIn.cons rfl (fun K hK => ?_) AllReadyIn.nil)
          · go_simp
            refine hK _ _ ?_
            clear hK K
            refine wpAnyIn_ready (rs := [2]) (by kernel_rfl) (by simp) ?_
            refine AllReadyIn.cons rfl (fun K hK => ?_) AllReadyIn.nil
            go_simp
            refine ⟨trivial, ?_⟩
            refine HINT.out.mono ?_
            rintro e w' ⟨rfl, nd2, rfl⟩
            have hcA := HCA.out (1 + nd2)
            go_simp
            refine hK _ _ ?_
            clear hK K
            refine wpAnyIn_ready (rs := [3]) (by kernel_rfl) (by simp) ?_
            refine AllReadyIn.cons rfl (fun K hK => ?_) AllReadyIn.nil
            go_simp
            refine hK _ _ ?_
            clear hK K
            obtain ⟨A1, n1, c1, w1, hrun, hc1, hf1, hri⟩ := HAPP.out (1 + nd2)
            refine wpAnyIn_ready (rs := [4]) (by kernel_rfl) (by simp) ?_
            refine AllReadyIn.cons rfl (fun K hK => ?_) AllReadyIn.nil
            refine append_in (v := vj) (y := .slice (some ⟨wr.heap.size, 0, none⟩) 1 1) (v1 := .slice A1 n1 c1) (w1 := w1) (by rfl) (.tmp 23) (.tmp 26) 22 rfl rfl rfl hrun ?_
            refine hK _ _ ?_
            clear hK K hrun
            refine wpAnyIn_ready (rs := [5]) (by kernel_rfl) (by simp) ?_
            refine AllReadyIn.cons rfl (fun K hK => ?_) AllReadyIn.nil
            go_simp
            refine hK _ _ ?_
            clear hK K
            refine wpAnyIn_done (by kernel_rfl) ?_ _
            have HRI := Lib.hid hri
            clear hri
            gi_wp2
            go_roundw
            case rel => exact ⟨j + 1, by omega, by go_num, HRI.out⟩
            case measure => simp [intOf]; omega
          · go_simp
            refine ⟨trivial, ?_⟩
            refine HINT.out.mono ?_
            rintro e w' ⟨rfl, nd2, rfl⟩
            have hcA := HCA.out (1 + nd2)
            go_simp
            refine hK _ _ ?_
            clear hK K
            refine wpAnyIn_ready (rs := [0, 3]) (by kernel_rfl) (by simp) ?_
            refine AllReadyIn.cons rfl (fun K hK => ?_) (AllReadyIn.cons rfl (fun K hK => ?_) AllReadyIn.nil)
            · go_simp
              refine hK _ _ ?_
              clear hK K
              refine wpAnyIn_ready (rs := [3]) (by kernel_rfl) (by simp) ?_
              refine AllReadyIn.cons rfl (fun K hK => ?_) AllReadyIn.nil
              go_simp
              refine hK _ _ ?_
              clear hK K
              obtain ⟨A1, n1, c1, w1, hrun, hc1, hf1, hri⟩ := HAPP.out (1 + nd2)
              refine wpAnyIn_ready (rs := [4]) (by kernel_rfl) (by simp) ?_
              refine AllReadyIn.cons rfl (fun K hK => ?_) AllReadyIn.nil
              refine append_in (v := vj) (y := .slice (some ⟨wr.heap.size, 0, none⟩) 1 1) (v1 := .slice A1 n1 c1) (w1 := w1) (by rfl) (.tmp 23) (.tmp 26) 22 rfl rfl rfl hrun ?_
              refine hK _ _ ?_
              clear hK K hrun
              refine wpAnyIn_ready (rs := [5]) (by kernel_rfl) (by simp) ?_
              refine AllReadyIn.cons rfl (fun K hK => ?_) AllReadyIn.nil
              go_simp
              refine hK _ _ ?_
              clear hK K
              refine wpAnyIn_done (by kernel_rfl) ?_ _
              have HRI := Lib.hid hri
              clear hri
              gi_wp2
              go_roundw
              case rel => exact ⟨j + 1, by omega, by go_num, HRI.out⟩
              case measure => simp [intOf]; omega
            · go_simp
              refine hK _ _ ?_
              clear hK K
              refine wpAnyIn_ready (rs := [0]) (by kernel_rfl) (by simp) ?_
              refine AllReadyIn.cons rfl (fun K hK => ?_) AllReadyIn.nil
              go_simp
              refine hK _ _ ?_
              clear hK K
              obtain ⟨A1, n1, c1, w1, hrun, hc1, hf1, hri⟩ := HAPP.out (1 + nd2)
              refine wpAnyIn_ready (rs := [4]) (by kernel_rfl) (by simp) ?_
              refine AllReadyIn.cons rfl (fun K hK => ?_) AllReadyIn.nil
              refine append_in (v := vj) (y := .slice (some ⟨wr.heap.size, 0, none⟩) 1 1) (v1 := .slice A1 n1 c1) (w1 := w1) (by rfl) (.tmp 23) (.tmp 26) 22 rfl rfl rfl hrun ?_
              refine hK _ _ ?_
              clear hK K hrun
              refine wpAnyIn_ready (rs := [5]) (by kernel_rfl) (by simp) ?_
              refine AllReadyIn.cons rfl (fun K hK => ?_) AllReadyIn.nil
              go_simp
              refine hK _ _ ?_
              clear hK K
              refine wpAnyIn_done (by kernel_rfl) ?_ _
              have HRI := Lib.hid hri
              clear hri
              gi_wp2
              go_roundw
              case rel => exact ⟨j + 1, by omega, by go_num, HRI.out⟩
              case measure => simp [intOf]; omega
      · obtain rfl : j = m := by omega
        have d3 : decide ((j : Int) < (j : Int)) = false := decide_eq_false (by omega)
        obtain ⟨vj, hvj, hoj⟩ := HR.out.own
        rw [List.take_of_length_le (by rw [HM.out]; exact Nat.le_refl _)] at hoj
        have hfin : RPost (n₀ + 1) k (fun k => CSt n₀ n₀ (n₀ + 1) w (rowI k)) W1.heap.size W .normal { tmps := #[], defers := [] } wr := ⟨HR.out.kf, HR.out.kp, ⟨⟨vj, hvj, by rw [show rowI (k + 1) = F.map (fun x : Nat => (x : Int)) by rw [← HF.out]; rfl]; exact hoj⟩, HR.out.below⟩⟩
        have HFIN := Lib.hid hfin
        clear hvj hoj hfin
        gi_wp2
        exact HFIN.out
  case done =>
    intro D W hD hI hK
    obtain ⟨⟨v, hv, ho⟩, hb⟩ := hI
    have hvc := hv.cell
    gi_wp2
    refine ⟨by simp, .inl ⟨_, _, rfl, run_takeDeferred hK, ?_⟩⟩
    have hown := own_move ho (w1 := W.putObj D (.deferred none)) fun r hr => World.putObj_heap_other (by
      rintro rfl
      obtain ⟨cells, hc⟩ := own_typed ho r hr
      rw [hK] at hc
      cases hc)
    have hR : Kd.R (Kd.int .i64) 3 (W.putObj D (.deferred none)) (n₀ + 2) (fun _ => True) v (rowI n) := Kd.R_of_own hown (fun _ _ => trivial)
    refine ⟨_, results_tmp2 rfl _ _ _, v, rfl, Kd.R_lower hR (by omega), ?_⟩
    rw [hn₀]
    exact hb.trans (belowK_b (w := W1) (by omega) W D _ _ (by omega) hK rfl rfl)
end Go.Proofs.Ytfopeenjpdaacaa.PC
end
section
namespace Go.Proofs.Ytfopeenjpdaacaa.PC
open Go.RowKit Go.Proofs.YtfopeenjpdaacaaW.PrintWords Go.Proofs.YtfopeenjpdaacaaW.PrintLast Go.Proofs.YtfopeenjpdaacaaW.PrintMore
attribute [local go_sem] max2_int min2_int max_two min_two max_three min_three max_four min_four   -- for this text's walks alone
set_option linter.unusedVariables false
set_option linter.unusedSimpArgs false
/-! ### chairs_Spread: function 24 -/
/-- how many good lists there are for each distance -/
def chairs_Spread.f (a0 : Int) : Option (List Int × Int) :=
 if a0 < 1 ∨ a0 > 10 then some ([], 2) else some (rowI a0.toNat, 0)
section
theorem spread_err (a0 : Int) (w : World) (h : a0 < 1 ∨ a0 > 10) :
  Calls Try.prog 24 #[.int .i64 a0] w fun e w' => e = .returned (.tuple #[.slice none 0 0, .int .i64 2]) ∧ Below w.heap.size w w' := by
 by_cases h1 : a0 < 1
 ·have d1 : decide (a0 < 1) = true := decide_eq_true h1
  go_enter Try.func24, Try.ntmps24
  go_wp2
  go_ret2
  exact ⟨rfl, Below.refl _ _⟩
 ·have d1 : decide (a0 < 1) = false := decide_eq_false h1
  have d2 : decide (10 < a0) = true := decide_eq_true (by omega)
  go_enter Try.func24, Try.ntmps24
  go_wp2
  go_ret2
  exact ⟨rfl, Below.refl _ _⟩
theorem chairs_Spread.calls (a0 : Int) (r1 : List Int) (r2 : Int) (w : World) (h : chairs_Spread.f a0 = some (r1, r2)) :
  Calls Try.prog 24 #[.int .i64 a0] w fun e w' => ∃ v0_ : Value, e = .returned (.tuple #[v0_, .int .i64 r2]) ∧ Kd.R (Kd.int .i64) 3 w' w.heap.size (fun _ => True) v0_ r1 ∧ Below w.heap.size w w' := by
 unfold chairs_Spread.f at h
 by_cases c : a0 < 1 ∨ a0 > 10
 ·rw [if_pos c] at h
  have h' := Option.some.inj h
  obtain ⟨rfl, rfl⟩ := Prod.mk.inj h'
  exact (spread_err a0 w c).mono fun e w' ⟨he, hb⟩ => ⟨_, he, Kd.R_nil _ _ _ _ _, hb⟩
 ·rw [if_neg c] at h
  have h' := Option.some.inj h
  obtain ⟨rfl, rfl⟩ := Prod.mk.inj h'
  obtain ⟨n, rfl⟩ : ∃ n : Nat, a0 = (n : Int) := ⟨a0.toNat, by omega⟩
  rw [Int.toNat_natCast]
  exact spread_walk n (by omega) (by omega) w
end
end Go.Proofs.Ytfopeenjpdaacaa.PC
end
section
/- The queue of the program: numbers that wait, behind a pointer: contracts of put and take. -/
namespace Go.Proofs.Ytfopeenjpdaacaa.PC
open Go.RowKit Go.Proofs.YtfopeenjpdaacaaW.PrintWords Go.Proofs.YtfopeenjpdaacaaW.PrintLast Go.Proofs.YtfopeenjpdaacaaW.PrintMore
/-- the numbers that wait: the variable lies in block B, its numbers in a block beyond it -/
def QVar (W : World) (B : Nat) (xs : List Int) : Prop := ∃ v, W.heap[B]? = some (.cells #[v] 69 (0, 0)) ∧ (Kd.int .i64).Q 3 W (B + 1) (fun _ => True) v xs
theorem q_far {W : World} {B : Nat} {v : Value} {xs : List Int} (h : (Kd.int .i64).Q 3 W (B + 1) (fun _ => True) v xs) (u : Value) : (Kd.int .i64).Q 3 (W.setCell ⟨B, 0, none⟩ u) (B + 1) (fun _ => True) v xs :=
  Kd.Q_mono (Kd.Q_far (ok := fun k => B + 1 ≤ k) (p := ⟨B, 0, none⟩) (Kd.Q_mono (Kd.Q_bound h) (fun k hk => hk.2.1)) (fun k hk => (by omega : k ≠ B)) u) (fun _ _ => trivial)
theorem info3q : (Try.prog.info? 3).map (fun i => (i.zero, i.size, i.bytes)) = some (some (.int .i64 0), 1, 8) := by kernel_rfl
theorem hset {w : World} {p i : Nat} {cs : Array Value} {t : TypeId} {fr : Nat × Nat} (h : w.heap[p]? = some (.cells cs t fr)) (v : Value) : (w.setCell ⟨p, i, none⟩ v).heap[p]? = some (.cells (cs.setIfInBounds i v) t fr) := by
  show (w.heap.modify p _)[p]? = _
  rw [Array.getElem?_modify, if_pos rfl, h]
  rfl
set_option maxHeartbeats 400000 in
theorem put_walk (B : Nat) (x : Int) (xs : List Int) (w : World) (h : QVar w B xs) (hl : xs.length ≤ 1000) :
    Calls Try.prog 60 #[.pointer (some ⟨B, 0, none⟩), .int .i64 x] w fun e w' => e = .returned (.tuple #[]) ∧ QVar w' B (xs ++ [x]) ∧ Below B w w' := by
  obtain ⟨v, hB, hQ⟩ := h
  have hc : w.cell? ⟨B, 0, none⟩ = some v := by simp [World.cell?, hB]
  have hBl : B < w.heap.size := (Array.getElem?_eq_some_iff.1 hB).1
  have HB := Lib.hid hB
  have HQ := Lib.hid hQ
  clear hB hQ
  go_enter Try.func60, Try.ntmps60
  go_wp2_with (first | (at_builtin; refine Kd.Q_append (w0 := w) (Kd.int .i64) (B + 1) rfl (.tmp 7) (.tmp 9) 69 3 (.int .i64 0) 8 rfl Try.underlying69 info3q rfl (by decide) (by decide) v xs x [.int .i64 x] (fun _ => True) (fun _ => False) rfl rfl rfl (fun _ hk => hk.elim) (fun _ _ => trivial) HQ.out (Below.refl _ _) (by omega) (by omega) ?_; intro v1 w1 hq1 hb1 hg1 _; obtain ⟨A1, c1, rfl, _⟩ := Kd.Q_slice hq1; have hB1 := (hb1.block B (by omega)).trans HB.out; have hc1 : w1.cell? ⟨B, 0, none⟩ = some v := (by simp [World.cell?, hB1]); have hf1 : w1.frozen? ⟨B, 0, none⟩ = false := (by simp [World.frozen?, hB1]); have HB1 := Lib.hid hB1; have HQ1 := Lib.hid hq1; have HBL := Lib.hid hb1; clear hB1 hq1 hb1 hg1))
  go_end0
  exact ⟨rfl, ⟨_, hset HB1.out _, q_far (by simpa using HQ1.out) _⟩, (HBL.out.mono (Nat.le_succ B)).setCell (p := ⟨B, 0, none⟩) (Nat.le_refl _) _⟩
set_option maxHeartbeats 400000 in
theorem take_walk (B : Nat) (y : Int) (ys : List Int) (w : World) (h : QVar w B (y :: ys)) :
    Calls Try.prog 61 #[.pointer (some ⟨B, 0, none⟩)] w fun e w' => e = .returned (.tuple #[.int .i64 y, .bool true]) ∧ QVar w' B ys ∧ Below B w w' := by
  obtain ⟨v, hB, hQ⟩ := h
  obtain ⟨g, o, cap, e, hg, hgl, _⟩ := Kd.Q_form hQ (by simp)
  subst e
  have hc : w.cell? ⟨B, 0, none⟩ = some (.slice (some ⟨g, o, none⟩) (y :: ys).length cap) := by simp [World.cell?, hB]
  have hf : w.frozen? ⟨B, 0, none⟩ = false := by simp [World.frozen?, hB]
  have hx := (Kd.Q_cell 0 hQ 0 (by omega) (by simp)).1
  have hx' : w.cell? ⟨g, o, none⟩ = some (.int .i64 y) := hx
  have hne : g ≠ B := by omega
  obtain ⟨n, hn⟩ : ∃ n, (y :: ys).length = n := ⟨_, rfl⟩
  have hn1 : n = ys.length + 1 := by rw [← hn]; rfl
  obtain ⟨i3, hi3, hz3⟩ := Option.map_eq_some_iff.1 info3q
  simp only [Prod.mk.injEq] at hz3
  have hdrop := Kd.Q_drop (k := 1) hQ (by simp)
  rw [hn] at hc hdrop
  have hcut := cut_from (P := Try.prog) 69 3 .i64 Try.underlying69 hi3 1 hz3.2.1 (some ⟨g, o, none⟩) n cap 1 (by omega) (by omega)
  have hx1 : (1 : Int).toNat = 1 := rfl
  rw [hx1] at hcut
  obtain ⟨A', hA'⟩ : ∃ A', (if cap = 1 then some (⟨g, o, none⟩ : Addr) else (some (⟨g, o, none⟩ : Addr)).map (·.add (1 * 1))) = A' := ⟨_, rfl⟩
  rw [hA'] at hcut
  have hA'' : (if cap = 1 then some (⟨g, o, none⟩ : Addr) else (some (⟨g, o, none⟩ : Addr)).map (·.add (1 * (Kd.int .i64).sz))) = A' := hA'
  rw [hA''] at hdrop
  have HD := Lib.hid hdrop
  have HB := Lib.hid hB
  have d1 : ((n : Int) == 0) = false := beq_eq_false_iff_ne.2 (by omega)
  have hn0 : (0 : Int) < (n : Int) := by omega
  have hn2 : (1 : Int) ≤ (n : Int) := by omega
  clear hQ hx hdrop hB hA' hA'' hn hn1 hz3
  go_enter Try.func61, Try.ntmps61
  go_wp2
  go_ret2
  refine ⟨rfl, ⟨_, hset HB.out _, q_far HD.out _⟩, (Below.refl _ _).setCell (p := ⟨B, 0, none⟩) (Nat.le_refl _) _⟩
set_option maxHeartbeats 400000 in
theorem take_none (B : Nat) (w : World) (h : QVar w B []) :
    Calls Try.prog 61 #[.pointer (some ⟨B, 0, none⟩)] w fun e w' => e = .returned (.tuple #[.int .i64 0, .bool false]) ∧ w = w' := by
  obtain ⟨v, hB, hQ⟩ := h
  obtain ⟨A, c, e, _⟩ := Kd.Q_slice hQ
  subst e
  have hc : w.cell? ⟨B, 0, none⟩ = some (.slice A 0 c) := by simp [World.cell?, hB]
  clear hB hQ
  go_enter Try.func61, Try.ntmps61
  go_wp2
  go_ret2
  exact ⟨rfl, rfl⟩
end Go.Proofs.Ytfopeenjpdaacaa.PC
end
section
/- The tree of wishes and the wishes of a tree, as the program makes them: plain. -/
namespace Go.Proofs.Ytfopeenjpdaacaa.PC
/-- one chair's customers: they come to the end of the queue, their parent is the node -/
def chairs_Tree.row (k node : Int) : List Int → Nat → List Int → List Int → List Int × List Int
  | [], _, out, q => (out, q)
  | w :: ws, c, out, q => if w = k then chairs_Tree.row k node ws (c + 1) (out.set c node) (q ++ [(c : Int) + 1]) else chairs_Tree.row k node ws (c + 1) out q
def chairs_Tree.go (l0 : List Int) : Nat → Int → List Int → List Int → Option (List Int)
  | 0, _, _, _ => none
  | _ + 1, _, out, [] => some out
  | n + 1, k, out, node :: q => chairs_Tree.go l0 n (k + 1) (chairs_Tree.row k node l0 0 out q).1 (chairs_Tree.row k node l0 0 out q).2
/-- one node's children: they come to the end of the queue, they wish the chair -/
def chairs_Wishes.go (l0 : List Int) : Nat → Int → List Int → List Int → Option (List Int)
  | 0, _, _, _ => none
  | _ + 1, _, out, [] => some out
  | n + 1, k, out, node :: q => chairs_Wishes.go l0 n (k + 1) (chairs_Tree.row node k l0 0 out q).1 (chairs_Tree.row node k l0 0 out q).2
end Go.Proofs.Ytfopeenjpdaacaa.PC
end
section
/- Tree: the walk behind its tests: a queue of nodes, the chairs one after the other. -/
namespace Go.Proofs.Ytfopeenjpdaacaa.PC
open Go.RowKit Go.Proofs.YtfopeenjpdaacaaW.PrintWords Go.Proofs.YtfopeenjpdaacaaW.PrintLast Go.Proofs.YtfopeenjpdaacaaW.PrintMore
/-- the state of the walk: what lay below the list that is made is as it was; the list; the queue in the block behind it -/
structure TSt (Wm : World) (B : Nat) (out q : List Int) (W : World) : Prop where
  below : Below Wm.heap.size Wm W
  hB : B = Wm.heap.size + 1
  out : W.heap[Wm.heap.size]? = some (.cells (nums .i64 out).toArray 3 (0, 0))
  q : QVar W B q
theorem QVar.below {W W' : World} {B : Nat} {xs : List Int} (h : QVar W B xs) (hb : ∀ k, B ≤ k → k < W.heap.size → W'.heap[k]? = W.heap[k]?) : QVar W' B xs := by
  obtain ⟨v, h1, h2⟩ := h
  refine ⟨v, (hb B (Nat.le_refl _) (Array.getElem?_eq_some_iff.1 h1).1).trans h1, ?_⟩
  exact Kd.Q_mono (Kd.Q_step (ok := fun k => B + 1 ≤ k) (Kd.Q_mono (Kd.Q_bound h2) (fun k hk => hk.2.1)) (fun k hk hl => hb k (by omega) hl)) (fun _ _ => trivial)
theorem TSt.moved {Wm W W' : World} {B : Nat} {out q q' : List Int} (h : TSt Wm B out q W) (hb : Below B W W') (hq : QVar W' B q') : TSt Wm B out q' W' := by
  have e := h.hB
  exact ⟨h.below.trans (hb.mono (by omega)), e, (hb.block _ (by omega)).trans h.out, hq⟩
theorem TSt.store {Wm W : World} {B : Nat} {out q : List Int} (h : TSt Wm B out q W) (i : Nat) (x : Int) : TSt Wm B (out.set i x) q (W.setCell ⟨Wm.heap.size, i, none⟩ (.int .i64 x)) := by
  have e := h.hB
  refine ⟨h.below.setCell (p := ⟨Wm.heap.size, i, none⟩) (Nat.le_refl _) _, e, ?_, h.q.below fun k hk _ => Below.heap_setCell W _ _ k (by show k ≠ Wm.heap.size; omega)⟩
  rw [hset h.out]
  simp [nums, List.map_set]
theorem TSt.cell {Wm W : World} {B : Nat} {out q : List Int} (h : TSt Wm B out q W) (i : Nat) (hi : i < out.length) : ∃ u, W.cell? ⟨Wm.heap.size, i, none⟩ = some u := ⟨.int .i64 (out[i]), by simp [World.cell?, h.out, nums, hi]⟩
theorem TSt.frozen {Wm W : World} {B : Nat} {out q : List Int} (h : TSt Wm B out q W) (i : Nat) : W.frozen? ⟨Wm.heap.size, i, none⟩ = false := by simp [World.frozen?, h.out]
theorem TSt.start (Wm : World) (n : Nat) (_hn : n ≤ 1000) : TSt Wm (Wm.heap.size + 1) (List.replicate n 0) [] ((Wm.alloc (.cells (madeCells #[.int .i64 0] n) 3)).alloc (.cells #[.slice none 0 0] 69)) := by
  obtain ⟨W1, hW1⟩ : ∃ W1, Wm.alloc (.cells (madeCells #[.int .i64 0] n) 3) = W1 := ⟨_, rfl⟩
  have hs1 : W1.heap.size = Wm.heap.size + 1 := by rw [← hW1]; simp
  have hb1 : Below Wm.heap.size Wm W1 := by rw [← hW1]; exact (Below.refl _ _).alloc (Nat.le_refl _) _
  have ho : W1.heap[Wm.heap.size]? = some (.cells (nums .i64 (List.replicate n 0)).toArray 3 (0, 0)) := by
    rw [← hW1, heap_alloc_new]
    congr 2
    apply Array.ext
    · simp [madeCells, nums]
    · intro i h1 h2
      simp [madeCells, nums, Nat.mod_one]
  rw [hW1]
  refine ⟨hb1.alloc (by omega) _, rfl, (Below.heap_alloc _ _ _ (by omega)).trans ho, ⟨_, ?_, Kd.Q_nil _ _ _ _ _⟩⟩
  rw [← hs1]
  exact heap_alloc_new _ _
theorem R_of_ints {W : World} {g base : Nat} {xs : List Int} (h : W.heap[g]? = some (.cells (nums .i64 xs).toArray 3 (0, 0))) (hb : base ≤ g) (hl : xs.length ≤ 1000000) : Kd.R (Kd.int .i64) 3 W base (fun _ => True) (.slice (some ⟨g, 0, none⟩) xs.length xs.length) xs :=
  Kd.R_of_own ⟨by simp [encs], .inr ⟨g, xs.length, _, rfl, hb, h, Nat.le_refl _, by unfold maxLen; omega, by simp [nums], by simp [encs, nums, List.take_of_length_le]⟩⟩ (fun _ _ => trivial)
theorem row_len (k node : Int) (l : List Int) : ∀ (c : Nat) (out q : List Int), (chairs_Tree.row k node l c out q).1.length = out.length ∧ (chairs_Tree.row k node l c out q).2.length ≤ q.length + l.length := by
  induction l with
  | nil => intro c out q; simp [chairs_Tree.row]
  | cons w l ih =>
    intro c out q
    simp only [chairs_Tree.row]
    split
    · have := ih (c + 1) (out.set c node) (q ++ [(c : Int) + 1])
      simp at this ⊢
      omega
    · have := ih (c + 1) out q
      simp at this ⊢
      omega
set_option maxRecDepth 100000 in
set_option maxHeartbeats 2000000 in
theorem tree_walk (k : Nat) (A0 : Option Addr) (c0 : Nat) (l0 : List Int) (w : World) (hr0 : Kd.C (Kd.int .i64) w A0 l0.length l0) (hc0 : l0.length ≤ c0) (h1 : chairs_same.f l0 = some 0) (r : List Int) (h2 : chairs_sit.f k (l0.length : Int) l0 = some (r, true)) (hl1 : 1 ≤ l0.length) (hl : l0.length ≤ 30)
    (res : List Int) (hgo : chairs_Tree.go l0 (l0.length + 2) 0 (List.replicate l0.length 0) [0] = some res) :
    Calls Try.prog 38 #[.slice A0 l0.length c0] w fun e w' => ∃ v0_ : Value, e = .returned (.tuple #[v0_, .int .i64 0]) ∧ Kd.R (Kd.int .i64) 3 w' w.heap.size (fun _ => True) v0_ res ∧ Below w.heap.size w w' := by
  have HR := Lib.hid hr0
  have HC := Lib.hid hc0
  have H1 := Lib.hid h1
  have H2 := Lib.hid h2
  have HG := Lib.hid hgo
  obtain ⟨n, hn⟩ : ∃ n, l0.length = n := ⟨_, rfl⟩
  have hcall2 := chairs_sit.calls k (l0.length : Int) A0 c0 l0 r true
  have hcall1 := chairs_same.calls A0 c0 l0 0
  rw [hn] at hcall1 hcall2 hl1 hl hgo ⊢
  have HG := Lib.hid hgo
  have HC1 := Lib.hid hcall1
  have HC2 := Lib.hid hcall2
  rw [hn] at hr0 hc0 h2
  have HR := Lib.hid hr0
  have HC := Lib.hid hc0
  have H2 := Lib.hid h2
  have HN := Lib.hid hn
  have hmk := @print_make Try.prog 22 3 .i64 8 Try.underlying22 info3q (by decide) n (by omega)
  clear hr0 hc0 h1 h2 hgo hn hcall1 hcall2
  go_enter Try.func38, Try.ntmps38
  go_wp2_with (first | (go_at_call 59; refine (HC1.out _ HR.out HC.out H1.out).mono ?_; rintro e wa ⟨rfl, hba⟩; have HBA := Lib.hid hba; clear hba) | (go_at_call 54; refine (HC2.out _ (Kd.C_below HR.out HBA.out) HC.out H2.out).mono ?_; rintro e wb ⟨v0, rfl, _, hbb⟩; have HBB := Lib.hid hbb; clear hbb) | (go_at_call 60; refine (put_walk (wb.heap.size + 1) 0 [] _ (TSt.start wb n (by omega)).q (by simp)).mono ?_; rintro e wc ⟨rfl, hqc, hbc⟩; have HTC := Lib.hid ((TSt.start wb n (by omega)).moved hbc hqc); clear hqc hbc))
  clear hmk
  go_loopw [9] (fun t wr => ∃ (j : Nat) (out q : List Int), j ≤ n + 1 ∧ t = .int .i64 (j : Int) ∧ out.length = n ∧ q.length ≤ 31 * j + 1 ∧ TSt wb (wb.heap.size + 1) out q wr ∧ Hid (chairs_Tree.go l0 (n + 2 - j) (j : Int) out q = some res)) (fun t _ => n + 2 - (intOf t).toNat)
  case atStart => exact ⟨0, _, _, by omega, rfl, by simp, by simp, HTC.out, HG⟩
  case round =>
    obtain ⟨j, out, q, hj, rfl, hol, hql, hT, hG⟩ := hrel
    have HT := Lib.hid hT
    have HOL := Lib.hid hol
    clear hT hol
    obtain ⟨wo, rfl⟩ : ∃ wo : World, wo = wr := ⟨_, rfl⟩
    cases q with
    | nil =>
      have hres : out = res := by
        have h := hG.out
        rw [show n + 2 - j = (n + 1 - j) + 1 by omega] at h
        simpa [chairs_Tree.go] using h
      subst hres
      go_wp2_with (go_at_call 61; refine (take_none _ _ HT.out.q).mono ?_; rintro e w' ⟨rfl, rfl⟩)
      go_ret2
      have hR := R_of_ints (base := w.heap.size) HT.out.out (by have := HBA.out.size; have := HBB.out.size; omega) (by rw [HOL.out]; omega)
      rw [HOL.out] at hR
      exact ⟨_, rfl, hR, (HBA.out.trans (HBB.out.mono HBA.out.size)).trans (HT.out.below.mono (by have := HBA.out.size; have := HBB.out.size; omega))⟩
    | cons node q =>
      have hjn : j ≤ n := by
        refine Nat.le_of_not_lt fun hlt => ?_
        have h := hG.out
        rw [show n + 2 - j = 0 + 1 by omega] at h
        simp [chairs_Tree.go] at h
      obtain ⟨outF, hoF⟩ : ∃ o, (chairs_Tree.row (j : Int) node l0 0 out q).1 = o := ⟨_, rfl⟩
      obtain ⟨qF, hqF⟩ : ∃ o, (chairs_Tree.row (j : Int) node l0 0 out q).2 = o := ⟨_, rfl⟩
      have hrow : chairs_Tree.row (j : Int) node (l0.drop 0) 0 out q = (outF, qF) := by rw [← hoF, ← hqF]; rfl
      have hg2 : chairs_Tree.go l0 (n + 2 - (j + 1)) ((j + 1 : Nat) : Int) outF qF = some res := by
        have h := hG.out
        rw [show n + 2 - j = (n + 2 - (j + 1)) + 1 by omega] at h
        simp only [chairs_Tree.go] at h
        rw [hoF, hqF] at h
        exact h
      have HG2 := Lib.hid hg2
      have HROW := Lib.hid hrow
      have hql2 : q.length ≤ 31 * j := by simpa using hql
      clear hoF hqF hg2 hrow hG hql
      go_wp2_with (go_at_call 61; refine (take_walk _ node q _ HT.out.q).mono ?_; rintro e w' ⟨rfl, hq', hb'⟩; have HT' := Lib.hid (HT.out.moved hb' hq'); clear hq' hb')
      go_loopw [43] (fun t w3 => ∃ (c : Nat) (out q : List Int), c ≤ n ∧ t = .int .i64 (c : Int) ∧ out.length = n ∧ q.length ≤ 31 * j + c ∧ TSt wb (wb.heap.size + 1) out q w3 ∧ Hid (chairs_Tree.row (j : Int) node (l0.drop c) c out q = (outF, qF))) (fun t _ => n - (intOf t).toNat)
      case atStart => exact ⟨0, _, _, by omega, rfl, HOL.out, by omega, HT'.out, HROW⟩
      case round =>
        obtain ⟨c, out2, q2, hc, rfl, hol2, hql3, hT2, hrow2⟩ := hrel
        have HT2 := Lib.hid hT2
        have HOL2 := Lib.hid hol2
        clear hT2 hol2 HROW
        obtain ⟨wp, rfl⟩ : ∃ wp : World, wp = wr := ⟨_, rfl⟩
        by_cases hlt : c < n
        · have d1 : decide ((c : Int) < (n : Int)) = true := decide_eq_true (by omega)
          have hcl : c < l0.length := by have := HN.out; omega
          obtain ⟨ad, e, hx⟩ := Kd.at_int (Kd.C_below (Kd.C_below (Kd.C_below HR.out HBA.out) HBB.out) HT2.out.below) (c : Int) (by omega) (by omega)
          subst e
          rw [Int.toNat_natCast] at hx
          obtain ⟨x, hxv⟩ : ∃ x, rd l0 (c : Int) = x := ⟨_, rfl⟩
          rw [hxv] at hx
          have hrow3 : (if x = (j : Int) then chairs_Tree.row (j : Int) node (l0.drop (c + 1)) (c + 1) (out2.set c node) (q2 ++ [(c : Int) + 1]) else chairs_Tree.row (j : Int) node (l0.drop (c + 1)) (c + 1) out2 q2) = (outF, qF) := by
            have h := hrow2.out
            rw [List.drop_eq_getElem_cons hcl] at h
            have e2 : l0[c] = x := by rw [← hxv]; simp [rd, List.getD_eq_getElem?_getD, hcl]
            rw [e2] at h
            simpa only [chairs_Tree.row] using h
          clear hxv hrow2
          by_cases hxj : x = (j : Int)
          · rw [if_pos hxj] at hrow3
            have d2 : (x == (j : Int)) = true := beq_iff_eq.2 hxj
            obtain ⟨u, hu⟩ := HT2.out.cell c (by rw [HOL2.out]; exact hlt)
            have hfu := HT2.out.frozen c
            have HROW3 := Lib.hid hrow3
            clear hrow3 hxj
            go_wp2_with (go_at_call 60; refine (put_walk (wb.heap.size + 1) ((c : Int) + 1) q2 _ (HT2.out.store c node).q (by omega)).mono ?_; rintro e w' ⟨rfl, hq', hb'⟩; have HT3 := Lib.hid ((HT2.out.store c node).moved hb' hq'); clear hq' hb')
            go_roundw
            case rel => exact ⟨c + 1, _, _, by omega, by go_num, by rw [List.length_set]; exact HOL2.out, by simp; omega, HT3.out, HROW3⟩
            case measure => simp [intOf]; omega
          · rw [if_neg hxj] at hrow3
            have d2 : (x == (j : Int)) = false := beq_eq_false_iff_ne.2 hxj
            have HROW3 := Lib.hid hrow3
            clear hrow3 hxj
            go_wp2
            go_roundw
            case rel => exact ⟨c + 1, _, _, by omega, by go_num, HOL2.out, by omega, HT2.out, HROW3⟩
            case measure => simp [intOf]; omega
        · obtain rfl : c = n := by omega
          have d1 : decide ((c : Int) < (c : Int)) = false := decide_eq_false (by omega)
          have h := hrow2.out
          rw [List.drop_of_length_le (by rw [HN.out]; exact Nat.le_refl _)] at h
          simp only [chairs_Tree.row, Prod.mk.injEq] at h
          obtain ⟨rfl, rfl⟩ := h
          clear hrow2
          go_wp2
          go_roundw
          case rel => exact ⟨j + 1, _, _, by omega, by go_num, HOL2.out, by omega, HT2.out, HG2⟩
          case measure => simp [intOf]; omega
set_option maxHeartbeats 400000 in
theorem tree_err1 (A0 : Option Addr) (c0 : Nat) (l0 : List Int) (w : World) (hr0 : Kd.C (Kd.int .i64) w A0 l0.length l0) (hc0 : l0.length ≤ c0) (e0 : Int) (h1 : chairs_same.f l0 = some e0) (he : e0 ≠ 0) :
    Calls Try.prog 38 #[.slice A0 l0.length c0] w fun e w' => e = .returned (.tuple #[.slice none 0 0, .int .i64 e0]) ∧ Below w.heap.size w w' := by
  have HR := Lib.hid hr0
  have HC := Lib.hid hc0
  have H1 := Lib.hid h1
  have d1 : (e0 != 0) = true := bne_iff_ne.2 he
  clear hr0 hc0 h1 he
  go_enter Try.func38, Try.ntmps38
  go_wp2_with (go_at_call 59; refine (chairs_same.calls A0 c0 l0 e0 _ HR.out HC.out H1.out).mono ?_; rintro e wa ⟨rfl, hba⟩; have HBA := Lib.hid hba; clear hba)
  go_ret2
  exact ⟨rfl, HBA.out⟩
set_option maxHeartbeats 400000 in
theorem tree_err2 (k : Nat) (A0 : Option Addr) (c0 : Nat) (l0 : List Int) (w : World) (hr0 : Kd.C (Kd.int .i64) w A0 l0.length l0) (hc0 : l0.length ≤ c0) (h1 : chairs_same.f l0 = some 0) (r : List Int) (h2 : chairs_sit.f k (l0.length : Int) l0 = some (r, false)) :
    Calls Try.prog 38 #[.slice A0 l0.length c0] w fun e w' => e = .returned (.tuple #[.slice none 0 0, .int .i64 10]) ∧ Below w.heap.size w w' := by
  have HR := Lib.hid hr0
  have HC := Lib.hid hc0
  have H1 := Lib.hid h1
  have H2 := Lib.hid h2
  clear hr0 hc0 h1 h2
  go_enter Try.func38, Try.ntmps38
  go_wp2_with (first | (go_at_call 59; refine (chairs_same.calls A0 c0 l0 0 _ HR.out HC.out H1.out).mono ?_; rintro e wa ⟨rfl, hba⟩; have HBA := Lib.hid hba; clear hba) | (go_at_call 54; refine (chairs_sit.calls k (l0.length : Int) A0 c0 l0 r false _ (Kd.C_below HR.out HBA.out) HC.out H2.out).mono ?_; rintro e wb ⟨v0, rfl, _, hbb⟩; have HBB := Lib.hid hbb; clear hbb))
  go_ret2
  exact ⟨rfl, HBA.out.trans (HBB.out.mono HBA.out.size)⟩
end Go.Proofs.Ytfopeenjpdaacaa.PC
end
section
namespace Go.Proofs.Ytfopeenjpdaacaa.PC
open Go.RowKit Go.Proofs.YtfopeenjpdaacaaW.PrintWords Go.Proofs.YtfopeenjpdaacaaW.PrintLast Go.Proofs.YtfopeenjpdaacaaW.PrintMore
attribute [local go_sem] max2_int min2_int max_two min_two max_three min_three max_four min_four   -- for this text's walks alone
set_option linter.unusedVariables false
set_option linter.unusedSimpArgs false
/-! ### chairs_Tree: function 38 -/
def chairs_Tree.f (k : Nat) (l0 : List Int) : Option (List Int × Int) :=
 (chairs_same.f l0).bind fun e => if e = 0 then ((chairs_sit.f k (l0.length : Int) l0).bind fun s => if s.2 = true then ((chairs_Tree.go l0 (l0.length + 2) 0 (List.replicate l0.length 0) [0]).bind fun out => some (out, 0)) else some ([], 10)) else some ([], e)
theorem chairs_Tree.mono : ∀ a0 k, LeO (chairs_Tree.f k a0) (chairs_Tree.f (k + 1) a0) := fun _ k =>
 LeO.bind (LeO.refl _) (fun _ => LeO.ite (LeO.bind (chairs_sit.mono _ _ k) (fun _ => LeO.refl _)) (LeO.refl _))
theorem chairs_Tree.calls (k : Nat) (A0 : Option Addr) (c0 : Nat) (l0 : List Int) (r1 : List Int) (r2 : Int) (w : World) (hr0 : Kd.C (Kd.int .i64) w A0 l0.length l0) (hc0 : l0.length ≤ c0) (h : chairs_Tree.f k l0 = some (r1, r2)) :
  Calls Try.prog 38 #[.slice A0 l0.length c0] w fun e w' => ∃ v0_ : Value, e = .returned (.tuple #[v0_, .int .i64 r2]) ∧ Kd.R (Kd.int .i64) 3 w' w.heap.size (fun _ => True) v0_ r1 ∧ Below w.heap.size w w' := by
 unfold chairs_Tree.f at h
 obtain ⟨e0, h1, h⟩ := Option.bind_eq_some_iff.1 h
 by_cases he : e0 = 0
 ·subst he
  simp only [if_true] at h
  obtain ⟨⟨s1, s2⟩, h2, h⟩ := Option.bind_eq_some_iff.1 h
  have hl : ¬ (l0.length : Int) = 0 ∧ ¬ (l0.length : Int) > 30 := by
   unfold chairs_same.f at h1
   by_cases c1 : (l0.length : Int) = 0
   ·rw [if_pos c1] at h1; cases h1
   ·rw [if_neg c1] at h1
    by_cases c2 : (l0.length : Int) > 30
    ·rw [if_pos c2] at h1; cases h1
    ·exact ⟨c1, c2⟩
  cases s2 with
  | true =>
   simp only [if_true] at h
   obtain ⟨res, h3, h⟩ := Option.bind_eq_some_iff.1 h
   have h' := Option.some.inj h
   obtain ⟨rfl, rfl⟩ := Prod.mk.inj h'
   exact tree_walk k A0 c0 l0 w hr0 hc0 h1 s1 h2 (by omega) (by omega) res h3
  | false =>
   rw [if_neg (by simp)] at h
   have h' := Option.some.inj h
   obtain ⟨rfl, rfl⟩ := Prod.mk.inj h'
   exact (tree_err2 k A0 c0 l0 w hr0 hc0 h1 s1 h2).mono fun e w' ⟨a, b⟩ => ⟨_, a, Kd.R_nil _ _ _ _ _, b⟩
 ·rw [if_neg he] at h
  have h' := Option.some.inj h
  obtain ⟨rfl, rfl⟩ := Prod.mk.inj h'
  exact (tree_err1 A0 c0 l0 w hr0 hc0 e0 h1 he).mono fun e w' ⟨a, b⟩ => ⟨_, a, Kd.R_nil _ _ _ _ _, b⟩
end Go.Proofs.Ytfopeenjpdaacaa.PC
end
section
namespace Go.Proofs.Ytfopeenjpdaacaa.PC
open Go.RowKit Go.Proofs.YtfopeenjpdaacaaW.PrintWords Go.Proofs.YtfopeenjpdaacaaW.PrintLast Go.Proofs.YtfopeenjpdaacaaW.PrintMore
attribute [local go_sem] max2_int min2_int max_two min_two max_three min_three max_four min_four   -- for this text's walks alone
set_option linter.unusedVariables false
set_option linter.unusedSimpArgs false
/-! ### pomadelaw03_alive: function 17 -/
/-- the closed example is true (its walk below runs with its known answers) -/
def pomadelaw03_alive.f : Option (Bool) := some true
section
theorem lit_C (W : World) (xs : List Int) (hl : xs.length ≤ 1000) : Kd.C (Kd.int .i64) (W.alloc (.cells (nums .i64 xs).toArray 3)) (some ⟨W.heap.size, 0, none⟩) xs.length xs := by
 have h := own_lit W 0 3 .i64 xs (Nat.zero_le _) (by omega)
 have hR : Kd.R (Kd.int .i64) 3 (W.alloc (.cells (nums .i64 xs).toArray 3)) 0 (fun _ => True) (.slice (some ⟨W.heap.size, 0, none⟩) xs.length xs.length) xs := Kd.R_of_own h (fun _ _ => trivial)
 obtain ⟨A, c, e, _, hC⟩ := Kd.R_reads hR
 injection e with e1 e2 e3
 subst e1
 exact hC
theorem step_below {w w1 w2 : World} (h : Below w.heap.size w w1) (hb : Below w1.heap.size w1 w2) : Below w.heap.size w w2 := h.trans (hb.mono h.size)
theorem spread3 : chairs_Spread.f 3 = some ([6, 6, 3, 1], 0) := by
 have h := MSpread.row_of (n := 2) (by omega)
 unfold chairs_Spread.f
 rw [if_neg (by omega)]
 show some ((chairs_Spread.row (chairs_Spread.known 2) (2 + 1)).map (fun x : Nat => (x : Int)), (0 : Int)) = _
 rw [h]
 rfl
theorem alive_h1 (W : World) : Calls Try.prog 31 #[.int .i64 3, .slice (some ⟨W.heap.size, 0, none⟩) 3 3] (W.alloc (.cells #[.int .i64 0, .int .i64 0, .int .i64 1] 3)) fun e w' => ∃ A c, e = .returned (.tuple #[.slice A 3 c, .int .i64 0]) ∧ Hid (3 ≤ c ∧ Kd.C (Kd.int .i64) w' A 3 [0, 1, 2]) ∧ Hid (Below W.heap.size W w') :=
 (chairs_Sit.calls 100 3 _ 3 [0, 0, 1] [0, 1, 2] 0 _ (lit_C W [0, 0, 1] (by simp)) (by simp) (by decide +kernel)).mono fun e w' ⟨v0, he, hr, hb⟩ => by
  obtain ⟨A, c, rfl, hc, hC⟩ := Kd.R_reads hr
  exact ⟨A, c, he, Lib.hid ⟨hc, hC⟩, Lib.hid (((Below.refl _ W).alloc (Nat.le_refl _) _).trans (hb.mono (by simp)))⟩
theorem alive_h2 (W : World) : Calls Try.prog 22 #[.int .i64 3, .slice (some ⟨W.heap.size, 0, none⟩) 3 3] (W.alloc (.cells #[.int .i64 1, .int .i64 1, .int .i64 2] 3)) fun e w' => e = .returned (.tuple #[.int .i64 3, .int .i64 0]) ∧ Hid (Below W.heap.size W w') :=
 (chairs_Turn.calls 100 3 _ 3 [1, 1, 2] 3 0 _ (lit_C W [1, 1, 2] (by simp)) (by simp) (by decide +kernel)).mono fun e w' ⟨he, hb⟩ => ⟨he, Lib.hid (((Below.refl _ W).alloc (Nat.le_refl _) _).trans (hb.mono (by simp)))⟩
theorem alive_h3 (W : World) : Calls Try.prog 18 #[.int .i64 3, .int .i64 3] W fun e w' => e = .returned (.tuple #[.int .i64 16, .int .i64 0]) ∧ Hid (Below W.heap.size W w') :=
 (chairs_Count.calls 100 3 3 16 0 _ (by decide +kernel)).mono fun e w' ⟨he, hb⟩ => ⟨he, Lib.hid (hb.below)⟩
theorem alive_h4 (W : World) : Calls Try.prog 20 #[.slice (some ⟨W.heap.size, 0, none⟩) 3 3] (W.alloc (.cells #[.int .i64 0, .int .i64 1, .int .i64 2] 3)) fun e w' => e = .returned (.tuple #[.int .i64 6, .int .i64 0]) ∧ Hid (Below W.heap.size W w') :=
 (chairs_Ways.calls 100 _ 3 [0, 1, 2] 6 0 _ (lit_C W [0, 1, 2] (by simp)) (by simp) (by decide +kernel)).mono fun e w' ⟨he, hb⟩ => ⟨he, Lib.hid (((Below.refl _ W).alloc (Nat.le_refl _) _).trans (hb.mono (by simp)))⟩
theorem alive_h5 (W : World) : Calls Try.prog 38 #[.slice (some ⟨W.heap.size, 0, none⟩) 3 3] (W.alloc (.cells #[.int .i64 0, .int .i64 0, .int .i64 1] 3)) fun e w' => ∃ A c, e = .returned (.tuple #[.slice A 3 c, .int .i64 0]) ∧ Hid (3 ≤ c ∧ Kd.C (Kd.int .i64) w' A 3 [0, 0, 1]) ∧ Hid (Below W.heap.size W w') :=
 (chairs_Tree.calls 100 _ 3 [0, 0, 1] [0, 0, 1] 0 _ (lit_C W [0, 0, 1] (by simp)) (by simp) (by decide +kernel)).mono fun e w' ⟨v0, he, hr, hb⟩ => by
  obtain ⟨A, c, rfl, hc, hC⟩ := Kd.R_reads hr
  exact ⟨A, c, he, Lib.hid ⟨hc, hC⟩, Lib.hid (((Below.refl _ W).alloc (Nat.le_refl _) _).trans (hb.mono (by simp)))⟩
theorem alive_h6 (W : World) : Calls Try.prog 24 #[.int .i64 3] W fun e w' => ∃ A c, e = .returned (.tuple #[.slice A 4 c, .int .i64 0]) ∧ Hid (4 ≤ c ∧ Kd.C (Kd.int .i64) w' A 4 [6, 6, 3, 1]) ∧ Hid (Below W.heap.size W w') :=
 (chairs_Spread.calls 3 [6, 6, 3, 1] 0 _ spread3).mono fun e w' ⟨v0, he, hr, hb⟩ => by
  obtain ⟨A, c, rfl, hc, hC⟩ := Kd.R_reads hr
  exact ⟨A, c, he, Lib.hid ⟨hc, hC⟩, Lib.hid (hb)⟩
theorem alive_h7 (W : World) (A : Option Addr) (c : Nat) (hc : 3 ≤ c ∧ Kd.C (Kd.int .i64) W A 3 [0, 1, 2]) : Calls Try.prog 26 #[.slice A 3 c, .slice (some ⟨W.heap.size, 0, none⟩) 3 3] (W.alloc (.cells #[.int .i64 0, .int .i64 1, .int .i64 2] 3)) fun e w' => e = .returned (.bool true) ∧ Hid (Below W.heap.size W w') :=
 (pomadelaw03_same.calls 100 A c [0, 1, 2] _ 3 [0, 1, 2] true _ (Kd.C_alloc hc.2 _) hc.1 (lit_C W [0, 1, 2] (by simp)) (by simp) (by decide +kernel)).mono fun e w' ⟨he, hb⟩ => ⟨he, Lib.hid (((Below.refl _ W).alloc (Nat.le_refl _) _).trans (hb.below.mono (by simp)))⟩
theorem alive_h8 (W : World) (A : Option Addr) (c : Nat) (hc : 3 ≤ c ∧ Kd.C (Kd.int .i64) W A 3 [0, 0, 1]) : Calls Try.prog 26 #[.slice A 3 c, .slice (some ⟨W.heap.size, 0, none⟩) 3 3] (W.alloc (.cells #[.int .i64 0, .int .i64 0, .int .i64 1] 3)) fun e w' => e = .returned (.bool true) ∧ Hid (Below W.heap.size W w') :=
 (pomadelaw03_same.calls 100 A c [0, 0, 1] _ 3 [0, 0, 1] true _ (Kd.C_alloc hc.2 _) hc.1 (lit_C W [0, 0, 1] (by simp)) (by simp) (by decide +kernel)).mono fun e w' ⟨he, hb⟩ => ⟨he, Lib.hid (((Below.refl _ W).alloc (Nat.le_refl _) _).trans (hb.below.mono (by simp)))⟩
theorem alive_h9 (W : World) (A : Option Addr) (c : Nat) (hc : 4 ≤ c ∧ Kd.C (Kd.int .i64) W A 4 [6, 6, 3, 1]) : Calls Try.prog 26 #[.slice A 4 c, .slice (some ⟨W.heap.size, 0, none⟩) 4 4] (W.alloc (.cells #[.int .i64 6, .int .i64 6, .int .i64 3, .int .i64 1] 3)) fun e w' => e = .returned (.bool true) ∧ Hid (Below W.heap.size W w') :=
 (pomadelaw03_same.calls 100 A c [6, 6, 3, 1] _ 4 [6, 6, 3, 1] true _ (Kd.C_alloc hc.2 _) hc.1 (lit_C W [6, 6, 3, 1] (by simp)) (by simp) (by decide +kernel)).mono fun e w' ⟨he, hb⟩ => ⟨he, Lib.hid (((Below.refl _ W).alloc (Nat.le_refl _) _).trans (hb.below.mono (by simp)))⟩
set_option maxRecDepth 100000 in
set_option maxHeartbeats 4000000 in
theorem pomadelaw03_alive.calls  (r : Bool) (w : World) (h : pomadelaw03_alive.f  = some r) :
  Calls Try.prog 17 #[] w fun e w' => e = .returned (.bool r) ∧ Below w.heap.size w w' := by
 obtain rfl : r = true := (Option.some.inj h).symm
 clear h
 go_enter Try.func17, Try.ntmps17
 go_wp2_with fail
 refine (alive_h1 _).mono ?_
 rintro e w1 ⟨A1, c1, rfl, C1, B1⟩
 go_wp2_with fail
 refine (alive_h2 _).mono ?_
 rintro e w2 ⟨rfl, B2⟩
 go_wp2_with fail
 refine (alive_h3 _).mono ?_
 rintro e w3 ⟨rfl, B3⟩
 go_wp2_with fail
 refine (alive_h4 _).mono ?_
 rintro e w4 ⟨rfl, B4⟩
 go_wp2_with fail
 refine (alive_h5 _).mono ?_
 rintro e w5 ⟨A5, c5, rfl, C5, B5⟩
 go_wp2_with fail
 refine (alive_h6 _).mono ?_
 rintro e w6 ⟨A6, c6, rfl, C6, B6⟩
 have M26 := Lib.hid (step_below (step_below (step_below (step_below B2.out B3.out) B4.out) B5.out) B6.out)
 go_wp2_with fail
 refine (alive_h7 _ A1 c1 ⟨C1.out.1, Kd.C_below C1.out.2 M26.out⟩).mono ?_
 rintro e w7 ⟨rfl, B7⟩
 have M67 := Lib.hid (step_below B6.out B7.out)
 go_wp2_with fail
 refine (alive_h8 _ A5 c5 ⟨C5.out.1, Kd.C_below C5.out.2 M67.out⟩).mono ?_
 rintro e w8 ⟨rfl, B8⟩
 have M78 := Lib.hid (step_below B7.out B8.out)
 go_wp2_with fail
 refine (alive_h9 _ A6 c6 ⟨C6.out.1, Kd.C_below C6.out.2 M78.out⟩).mono ?_
 rintro e w9 ⟨rfl, B9⟩
 go_wp2_with fail
 go_ret
 exact ⟨rfl, step_below (step_below B1.out M26.out) (step_below M78.out B9.out)⟩
end
end Go.Proofs.Ytfopeenjpdaacaa.PC
end
