/- Parts of the proof of LawTopCycles, one behind the other: PCf10 LTown HCy. -/
import Derived.Test.YtagmadfllfcloaaJTopCycles5
section
set_option linter.unusedVariables false
set_option linter.unusedSimpArgs false
namespace Go.Proofs.Ytagmadfllfcloaa.PC
open Go.RowKit Go.Proofs.YtagmadfllfcloaaW.PrintWords Go.Proofs.YtagmadfllfcloaaW.PrintLast Go.Proofs.YtagmadfllfcloaaW.PrintMore
attribute [local go_sem] max2_int min2_int max_two min_two max_three min_three max_four min_four   -- for this text's walks alone
set_option linter.unusedVariables false
set_option linter.unusedSimpArgs false
/-! ### pomaderef02_Town: function 10 -/
mutual
def pomaderef02_Town.j0 : Nat → Int → List (S41) → Bool → Option (List Int × Int)
 | 0, _, _, _ => none
 | k + 1, x0, x1, x13 => if x13 = true then (some (([] : List Int), 2)) else (if (x1.length : Int) > 80 then (some (([] : List Int), 3)) else (if 0 ≤ x0 then (if (x0 : Int).toNat ≤ 35184372088832 then (pomaderef02_Town.l0 k x0 x1 (List.replicate (x0 : Int).toNat 0) 0) else (none)) else (none)))
def pomaderef02_Town.l0 : Nat → Int → List (S41) → List Int → Int → Option (List Int × Int)
 | 0, _, _, _, _ => none
 | k + 1, x0, x1, x6, x7 => if x7 < (x1.length : Int) then (if 0 ≤ x7 then (if ((rd_T41 x1 x7).f0) < 0 then (some (([] : List Int), 2)) else (if ((rd_T41 x1 x7).f0) ≥ x0 then (some (([] : List Int), 2)) else (if ((rd_T41 x1 x7).f1) < 0 then (some (([] : List Int), 2)) else (if ((rd_T41 x1 x7).f1) ≥ x0 then (some (([] : List Int), 2)) else (if 0 ≤ ((rd_T41 x1 x7).f0) then (if ((rd_T41 x1 x7).f0) < (x6.length : Int) then (if 0 ≤ ((rd_T41 x1 x7).f1) then (pomaderef02_Town.l0 k x0 x1 (x6.set (((rd_T41 x1 x7).f0) : Int).toNat (Go.bits .or .i64 (rd x6 ((rd_T41 x1 x7).f0)) (shl .i64 1 ((rd_T41 x1 x7).f1)))) (wrap64 (x7 + 1))) else (none)) else (none)) else (none)))))) else (none)) else (some (x6, 0))
end
def pomaderef02_Town.f (k : Nat) (a0 : Int) (l1 : List (S41)) : Option (List Int × Int) := if a0 < 1 then (pomaderef02_Town.j0 k a0 l1 true) else (pomaderef02_Town.j0 k a0 l1 (decide (a0 > 12)))
theorem pomaderef02_Town.mono_l : ∀ k, (∀ y0 y1 y2, LeO (pomaderef02_Town.j0 k y0 y1 y2) (pomaderef02_Town.j0 (k + 1) y0 y1 y2)) ∧ (∀ y0 y1 y2 y3, LeO (pomaderef02_Town.l0 k y0 y1 y2 y3) (pomaderef02_Town.l0 (k + 1) y0 y1 y2 y3))
 | 0 => ⟨fun _ _ _ r h => by simp [pomaderef02_Town.j0] at h, fun _ _ _ _ r h => by simp [pomaderef02_Town.l0] at h⟩
 | k + 1 => by
  obtain ⟨ih0, ih1⟩ := pomaderef02_Town.mono_l k
  refine ⟨?_, ?_⟩
  ·intro y0 y1 y2
   unfold pomaderef02_Town.j0
   repeat' first
   | (with_reducible exact ih0 _ _ _)
   | (with_reducible exact ih1 _ _ _ _)
   | (with_reducible exact LeO.refl _)
   | (with_reducible exact LeO.none _)
   | (with_reducible refine LeO.ite ?_ ?_)
   | (with_reducible refine LeO.bind ?_ (fun _ => ?_))
   | exact ih0 _ _ _
   | exact ih1 _ _ _ _
   | exact LeO.none _
   | refine LeO.ite ?_ ?_
   | refine LeO.bind ?_ (fun _ => ?_)
  ·intro y0 y1 y2 y3
   unfold pomaderef02_Town.l0
   repeat' first
   | (with_reducible exact ih0 _ _ _)
   | (with_reducible exact ih1 _ _ _ _)
   | (with_reducible exact LeO.refl _)
   | (with_reducible exact LeO.none _)
   | (with_reducible refine LeO.ite ?_ ?_)
   | (with_reducible refine LeO.bind ?_ (fun _ => ?_))
   | exact ih0 _ _ _
   | exact ih1 _ _ _ _
   | exact LeO.none _
   | refine LeO.ite ?_ ?_
   | refine LeO.bind ?_ (fun _ => ?_)
theorem pomaderef02_Town.mono : ∀ a0 a1 k, LeO (pomaderef02_Town.f k a0 a1) (pomaderef02_Town.f (k + 1) a0 a1) := by
 intro a0 a1 k
 obtain ⟨ih0, ih1⟩ := pomaderef02_Town.mono_l k
 unfold pomaderef02_Town.f
 repeat' first
   | (with_reducible exact ih0 _ _ _)
   | (with_reducible exact ih1 _ _ _ _)
   | (with_reducible exact LeO.refl _)
   | (with_reducible exact LeO.none _)
   | (with_reducible refine LeO.ite ?_ ?_)
   | (with_reducible refine LeO.bind ?_ (fun _ => ?_))
   | exact ih0 _ _ _
   | exact ih1 _ _ _ _
   | exact LeO.none _
   | refine LeO.ite ?_ ?_
   | refine LeO.bind ?_ (fun _ => ?_)
def pomaderef02_Town.T11 : Bool × List (List Nat × List Nat) := (true, [([], []), ([], []), ([], []), ([1, 2], [1, 2]), ([3], [3]), ([4], [4]), ([], []), ([], []), ([], []), ([7, 8], [7, 8]), ([9], [9]), ([10], [10]), ([6, 11], [6, 11]), ([12], [12]), ([], []), ([], []), ([14, 15], [14, 15]), ([16], [16]), ([17], [17]), ([18], [18]), ([13, 19], [13, 19]), ([0, 5, 0, 1, 2, 3, 4, 5, 6, 7, 8, 9, 10, 11, 12, 13, 14, 15, 16, 17, 18, 19, 20], [0, 5]), ([21, 20, 0, 1, 2, 3, 4, 5, 6, 7, 8, 9, 10, 11, 12, 13, 14, 15, 16, 17, 18, 19, 20], [20, 21])])
def pomaderef02_Town.B11 : List Nat := [0, 0, 0, 6, 14, 30, 0, 0, 0, 384, 896, 1920, 4032, 8128, 0, 0, 49152, 114688, 245760, 507904, 1048512, 2097151, 4194303]
theorem pomaderef02_Town.tab11 : rtab .any (opsOf Try.f10 11) = pomaderef02_Town.T11 := by kernel_rfl
theorem pomaderef02_Town.bits11 : waitsOk pomaderef02_Town.T11.2 pomaderef02_Town.B11 = true := by kernel_rfl
set_option maxHeartbeats 8000000 in
set_option maxRecDepth 100000 in
theorem pomaderef02_Town.calls (k : Nat) (a0 : Int) (A1 : Option Addr) (c1 : Nat) (l1 : List (S41)) (r1 : List Int) (r2 : Int) (w : World) (hr1 : Kd.C k41 w A1 l1.length l1) (hc1 : l1.length ≤ c1) (h : pomaderef02_Town.f k a0 l1 = some (r1, r2)) :
  Calls Try.prog 10 #[.int .i64 a0, .slice A1 l1.length c1] w fun e w' => ∃ v0_ : Value, e = .returned (.tuple #[v0_, .int .i64 r2]) ∧ Kd.R (Kd.int .i64) 3 w' w.heap.size (fun _ => True) v0_ r1 ∧ Below w.heap.size w w' := by
 have HR1 := Aside0.mk hr1
 have HC1 := Aside0.mk hc1
 clear hr1 hc1
 have HB := Aside0.mk (Below.refl w.heap.size w)
 have H : (if a0 < 1 then (pomaderef02_Town.j0 k a0 l1 true) else (pomaderef02_Town.j0 k a0 l1 (decide (a0 > 12)))) = some (r1, r2) := h
 clear h
 have HC3 := Aside0.mk H
 clear H
 go_enter Try.func10, Try.ntmps10
 go_upto_region 1 with (fail)
 go_cut [13] (fun v13 wc => ∃ (kq : Nat) (x13_2 : Bool), v13 = .bool x13_2 ∧ Aside0 (pomaderef02_Town.j0 kq a0 l1 x13_2 = some (r1, r2)) ∧ Aside0 (kq ≤ k) ∧ Aside0 (Below w.heap.size w wc))
 case first =>
  have H := HC3.out
  clear HC3
  by_cases c4 : a0 < 1
  ·rw [if_pos c4] at H
   have c4b0 : decide (a0 < 1) = true := decide_eq_true c4
   clear c4
   (first | rw [c4b0] | (simp only [i64_w, i32_w]; rw [c4b0]) | skip)
   have H' := Aside0.mk H
   clear H
   go_wp2
   go_meet
   case rel => exact ⟨_, (true), (by first | rfl | (simp; done) | (simp [*]; done)), H', ⟨by first | omega | exact Nat.le_refl _⟩, ⟨by repeat (first | (with_reducible first | exact HB.out | apply below_alloc | apply pw_below_drewN | apply below_drew1) | exact HB.out)⟩⟩
  ·rw [if_neg c4] at H
   have c4b0 : decide (a0 < 1) = false := decide_eq_false c4
   clear c4
   (first | rw [c4b0] | (simp only [i64_w, i32_w]; rw [c4b0]) | skip)
   have H' := Aside0.mk H
   clear H
   go_wp2
   go_meet
   case rel => exact ⟨_, (decide (a0 > 12)), (by first | rfl | (simp; done) | (simp [*]; done)), H', ⟨by first | omega | exact Nat.le_refl _⟩, ⟨by repeat (first | (with_reducible first | exact HB.out | apply below_alloc | apply pw_below_drewN | apply below_drew1) | exact HB.out)⟩⟩
 case rest =>
  clear HC3
  try clear c1
  try clear p2
  try clear c4
  try clear c4b0
  obtain ⟨kq, x13_2, rfl, HA, HJ2, HB⟩ := hcut
  cases kq with
  | zero => exact absurd HA.out (by simp [pomaderef02_Town.j0])
  | succ kj2 =>
   have H := HA.out
   clear HA
   simp only [pomaderef02_Town.j0] at H
   by_cases c5 : x13_2 = true
   ·subst c5
    have H1 : (some (([] : List Int), 2)) = some (r1, r2) := by rw [if_pos rfl] at H; exact H
    clear H
    have H := H1
    clear H1
    simp only [Option.some.injEq, Prod.mk.injEq] at H
    obtain ⟨rfl, rfl⟩ := H
    go_wp2
    go_ret2
    exact ⟨_, by first | rfl | (simp [errW_none, errW_some] <;> rfl) | (simp [*, errW_none, errW_some] <;> rfl), by first | exact Kd.R_nil _ _ _ _ _ | exact Kd.N_nil _ _ _ _ _ | exact Kd.V_nil _ _ _ _ _ | exact Kd.Q_nil _ _ _ _ _ | exact Kd.S_nil _ _ _ _ _, by repeat (first | (with_reducible first | exact HB.out | apply below_alloc | apply pw_below_drewN | apply below_drew1) | exact HB.out)⟩
   ·replace c5 := Bool.eq_false_iff.mpr c5
    subst c5
    have H1 : (if (l1.length : Int) > 80 then (some (([] : List Int), 3)) else (if 0 ≤ a0 then (if (a0 : Int).toNat ≤ 35184372088832 then (pomaderef02_Town.l0 kj2 a0 l1 (List.replicate (a0 : Int).toNat 0) 0) else (none)) else (none))) = some (r1, r2) := by rw [if_neg (show ¬ (false = true) by decide)] at H; exact H
    clear H
    have H := H1
    clear H1
    by_cases c6 : (l1.length : Int) > 80
    ·rw [if_pos c6] at H
     have c6b0 : decide (80 < (l1.length : Int)) = true := decide_eq_true c6
     have c6b1 : decide (80 < l1.length) = true := decide_eq_true (by omega)
     clear c6
     simp only [Option.some.injEq, Prod.mk.injEq] at H
     obtain ⟨rfl, rfl⟩ := H
     go_wp2
     go_ret2
     exact ⟨_, by first | rfl | (simp [errW_none, errW_some] <;> rfl) | (simp [*, errW_none, errW_some] <;> rfl), by first | exact Kd.R_nil _ _ _ _ _ | exact Kd.N_nil _ _ _ _ _ | exact Kd.V_nil _ _ _ _ _ | exact Kd.Q_nil _ _ _ _ _ | exact Kd.S_nil _ _ _ _ _, by repeat (first | (with_reducible first | exact HB.out | apply below_alloc | apply pw_below_drewN | apply below_drew1) | exact HB.out)⟩
    ·rw [if_neg c6] at H
     have c6b0 : decide (80 < (l1.length : Int)) = false := decide_eq_false c6
     have c6b1 : decide (80 < l1.length) = false := decide_eq_false (by omega)
     clear c6
     by_cases c7 : 0 ≤ a0
     ·rw [if_pos c7] at H
      have c7b0 := eq_true c7
      have c7b1 : decide (0 ≤ a0) = true := decide_eq_true c7
      clear c7
      by_cases c8 : (a0 : Int).toNat ≤ 35184372088832
      ·rw [if_pos c8] at H
       have c8b0 := eq_true c8
       have c8b1 : decide ((a0 : Int).toNat ≤ 35184372088832) = true := decide_eq_true c8
       clear c8
       obtain ⟨y145, hy145⟩ : ∃ y_ : List Int, y_ = (List.replicate (a0 : Int).toNat 0) := ⟨_, rfl⟩
       replace H : (pomaderef02_Town.l0 kj2 a0 l1 y145 0) = some (r1, r2) := by first | (rw [hy145]; with_reducible exact H) | (have H2_ := (Option.bind_some _ _).symm.trans H; rw [hy145]; with_reducible exact H2_) | (have H2_ := (Option.bind_some _ _).symm.trans H; with_reducible exact H2_) | with_reducible exact H | (rw [hy145]; exact H) | exact H
       have Ny145 := Aside0.mk hy145
       clear hy145
       have H' := Aside0.mk H
       clear H
       go_wp2_with (first | ((with_reducible refine gate_dst (N := 18) rfl ?_); refine Kd.R_make (Kd.int .i64) _ 3 rfl (N := 18) rfl 23 _ _ rfl a0 rfl rfl Try.underlying23 (.int .i64 0) 8 info3 rfl (by decide) (by omega) 0 (ok := fun _ => True) (okp := fun _ => True) rfl (fun _ hk => hk) trivial (of_decide_eq_true (by first | (with_reducible assumption) | assumption)) (Nat.le_trans (Nat.mul_le_mul_right _ (of_decide_eq_true (by first | (with_reducible assumption) | assumption) : a0.toNat ≤ 35184372088832)) (by omega)) (Below.refl _ _) (Nat.le_refl _) ?_; intro v146 w9 ho10 hb hg_ hnew_; clear hg_ hnew_; (first | rw [← Ny145.out] at ho10 | (simp only [Int.reduceToNat] at ho10; rw [← Ny145.out] at ho10)); have n0_ := Aside0.mk (Kd.R_lower ho10 (below_size (by repeat (first | (with_reducible first | exact HB.out | apply below_alloc | apply pw_below_drewN | apply below_drew1) | exact HB.out)))); have n1_ := Aside0.mk (below_step (by repeat (first | (with_reducible first | exact HB.out | apply below_alloc | apply pw_below_drewN | apply below_drew1) | exact HB.out)) hb); clear HB; have HO147 := n0_; have HB := n1_; clear n0_ n1_; clear hb ho10))
       go_loopg [7] kj2 (fun kq v7 w' => ∃ (x6_2 : List Int) (x7_2 : Int), v7 = .int .i64 x7_2 ∧ Aside0 (pomaderef02_Town.l0 kq a0 l1 x6_2 x7_2 = some (r1, r2)) ∧ Aside0 (kq ≤ kj2) ∧ Aside0 (Kd.R (Kd.int .i64) 3 w' w.heap.size (fun _ => True) v146 x6_2) ∧ Aside0 (Below w.heap.size w w'))
       case atStart => exact ⟨(y145), (0), (by first | rfl | (simp; done) | (simp [*]; done)), H', ⟨Nat.le_refl _⟩, ⟨by (with_reducible repeat (first | apply Kd.R_alloc | apply Kd.R_drewN | apply Kd.R_drew)); exact HO147.out⟩, ⟨by repeat (first | (with_reducible first | exact HB.out | apply below_alloc | apply pw_below_drewN | apply below_drew1) | exact HB.out)⟩⟩
       case round =>
        clear H'
        try clear c1
        try clear p2
        try clear c4
        try clear c4b0
        try clear c5
        try clear c6
        try clear c6b0
        try clear c6b1
        try clear c7
        try clear c7b0
        try clear c7b1
        try clear c8
        try clear c8b0
        try clear c8b1
        try clear c10
        try clear p2
        obtain ⟨x6_2, x7_2, rfl, HA, HK2, HO_6, HB⟩ := hrel
        cases gk with
        | zero => exact absurd HA.out (by simp [pomaderef02_Town.l0])
        | succ k2 =>
         have H := HA.out
         clear HA
         simp only [pomaderef02_Town.l0] at H
         by_cases c11 : x7_2 < (l1.length : Int)
         ·rw [if_pos c11] at H
          have c11b0 : decide (x7_2 < (l1.length : Int)) = true := decide_eq_true c11
          clear c11
          by_cases c12 : 0 ≤ x7_2
          ·rw [if_pos c12] at H
           have c12b0 : decide (0 ≤ x7_2) = true := decide_eq_true c12
           clear c12
           by_cases c13 : ((rd_T41 l1 x7_2).f0) < 0
           ·rw [if_pos c13] at H
            have c13b0 : decide (((rd_T41 l1 x7_2).f0) < 0) = true := decide_eq_true c13
            clear c13
            simp only [Option.some.injEq, Prod.mk.injEq] at H
            obtain ⟨rfl, rfl⟩ := H
            have p148 : 0 ≤ (x7_2 : Int) := of_decide_eq_true (by first | (with_reducible assumption) | assumption)
            have q148 : x7_2 < (l1.length : Int) := of_decide_eq_true (by first | (with_reducible assumption) | assumption)
            obtain ⟨ad148, e148, hx148_0, hx148_1⟩ := at_T41 HR1.out x7_2 p148 q148
            cases e148
            replace hx148_0 := (HB.out.cell (World.block_lt_of_cell? w _ hx148_0)).trans hx148_0
            replace hx148_1 := (HB.out.cell (World.block_lt_of_cell? w _ hx148_1)).trans hx148_1
            replace p148 := eq_true p148
            replace q148 := eq_true q148
            go_wp2
            go_ret2
            exact ⟨_, by first | rfl | (simp [errW_none, errW_some] <;> rfl) | (simp [*, errW_none, errW_some] <;> rfl), by first | exact Kd.R_nil _ _ _ _ _ | exact Kd.N_nil _ _ _ _ _ | exact Kd.V_nil _ _ _ _ _ | exact Kd.Q_nil _ _ _ _ _ | exact Kd.S_nil _ _ _ _ _, by repeat (first | (with_reducible first | exact HB.out | apply below_alloc | apply pw_below_drewN | apply below_drew1) | exact HB.out)⟩
           ·rw [if_neg c13] at H
            have c13b0 : decide (((rd_T41 l1 x7_2).f0) < 0) = false := decide_eq_false c13
            clear c13
            by_cases c14 : ((rd_T41 l1 x7_2).f0) ≥ a0
            ·rw [if_pos c14] at H
             have c14b0 : decide (a0 ≤ ((rd_T41 l1 x7_2).f0)) = true := decide_eq_true c14
             clear c14
             simp only [Option.some.injEq, Prod.mk.injEq] at H
             obtain ⟨rfl, rfl⟩ := H
             have p148 : 0 ≤ (x7_2 : Int) := of_decide_eq_true (by first | (with_reducible assumption) | assumption)
             have q148 : x7_2 < (l1.length : Int) := of_decide_eq_true (by first | (with_reducible assumption) | assumption)
             obtain ⟨ad148, e148, hx148_0, hx148_1⟩ := at_T41 HR1.out x7_2 p148 q148
             cases e148
             replace hx148_0 := (HB.out.cell (World.block_lt_of_cell? w _ hx148_0)).trans hx148_0
             replace hx148_1 := (HB.out.cell (World.block_lt_of_cell? w _ hx148_1)).trans hx148_1
             replace p148 := eq_true p148
             replace q148 := eq_true q148
             have p149 : 0 ≤ (x7_2 : Int) := of_decide_eq_true (by first | (with_reducible assumption) | assumption)
             have q149 : x7_2 < (l1.length : Int) := of_decide_eq_true (by first | (with_reducible assumption) | assumption)
             obtain ⟨ad149, e149, hx149_0, hx149_1⟩ := at_T41 HR1.out x7_2 p149 q149
             obtain rfl : ad148 = ad149 := (by injection e149)
             replace hx149_0 := (HB.out.cell (World.block_lt_of_cell? w _ hx149_0)).trans hx149_0
             replace hx149_1 := (HB.out.cell (World.block_lt_of_cell? w _ hx149_1)).trans hx149_1
             replace p149 := eq_true p149
             replace q149 := eq_true q149
             go_wp2
             go_ret2
             exact ⟨_, by first | rfl | (simp [errW_none, errW_some] <;> rfl) | (simp [*, errW_none, errW_some] <;> rfl), by first | exact Kd.R_nil _ _ _ _ _ | exact Kd.N_nil _ _ _ _ _ | exact Kd.V_nil _ _ _ _ _ | exact Kd.Q_nil _ _ _ _ _ | exact Kd.S_nil _ _ _ _ _, by repeat (first | (with_reducible first | exact HB.out | apply below_alloc | apply pw_below_drewN | apply below_drew1) | exact HB.out)⟩
            ·rw [if_neg c14] at H
             have c14b0 : decide (a0 ≤ ((rd_T41 l1 x7_2).f0)) = false := decide_eq_false c14
             clear c14
             by_cases c15 : ((rd_T41 l1 x7_2).f1) < 0
             ·rw [if_pos c15] at H
              have c15b0 : decide (((rd_T41 l1 x7_2).f1) < 0) = true := decide_eq_true c15
              clear c15
              simp only [Option.some.injEq, Prod.mk.injEq] at H
              obtain ⟨rfl, rfl⟩ := H
              have p148 : 0 ≤ (x7_2 : Int) := of_decide_eq_true (by first | (with_reducible assumption) | assumption)
              have q148 : x7_2 < (l1.length : Int) := of_decide_eq_true (by first | (with_reducible assumption) | assumption)
              obtain ⟨ad148, e148, hx148_0, hx148_1⟩ := at_T41 HR1.out x7_2 p148 q148
              cases e148
              replace hx148_0 := (HB.out.cell (World.block_lt_of_cell? w _ hx148_0)).trans hx148_0
              replace hx148_1 := (HB.out.cell (World.block_lt_of_cell? w _ hx148_1)).trans hx148_1
              replace p148 := eq_true p148
              replace q148 := eq_true q148
              have p149 : 0 ≤ (x7_2 : Int) := of_decide_eq_true (by first | (with_reducible assumption) | assumption)
              have q149 : x7_2 < (l1.length : Int) := of_decide_eq_true (by first | (with_reducible assumption) | assumption)
              obtain ⟨ad149, e149, hx149_0, hx149_1⟩ := at_T41 HR1.out x7_2 p149 q149
              obtain rfl : ad148 = ad149 := (by injection e149)
              replace hx149_0 := (HB.out.cell (World.block_lt_of_cell? w _ hx149_0)).trans hx149_0
              replace hx149_1 := (HB.out.cell (World.block_lt_of_cell? w _ hx149_1)).trans hx149_1
              replace p149 := eq_true p149
              replace q149 := eq_true q149
              have p150 : 0 ≤ (x7_2 : Int) := of_decide_eq_true (by first | (with_reducible assumption) | assumption)
              have q150 : x7_2 < (l1.length : Int) := of_decide_eq_true (by first | (with_reducible assumption) | assumption)
              obtain ⟨ad150, e150, hx150_0, hx150_1⟩ := at_T41 HR1.out x7_2 p150 q150
              obtain rfl : ad148 = ad150 := (by injection e150)
              replace hx150_0 := (HB.out.cell (World.block_lt_of_cell? w _ hx150_0)).trans hx150_0
              replace hx150_1 := (HB.out.cell (World.block_lt_of_cell? w _ hx150_1)).trans hx150_1
              replace p150 := eq_true p150
              replace q150 := eq_true q150
              go_wp2
              go_ret2
              exact ⟨_, by first | rfl | (simp [errW_none, errW_some] <;> rfl) | (simp [*, errW_none, errW_some] <;> rfl), by first | exact Kd.R_nil _ _ _ _ _ | exact Kd.N_nil _ _ _ _ _ | exact Kd.V_nil _ _ _ _ _ | exact Kd.Q_nil _ _ _ _ _ | exact Kd.S_nil _ _ _ _ _, by repeat (first | (with_reducible first | exact HB.out | apply below_alloc | apply pw_below_drewN | apply below_drew1) | exact HB.out)⟩
             ·rw [if_neg c15] at H
              have c15b0 : decide (((rd_T41 l1 x7_2).f1) < 0) = false := decide_eq_false c15
              clear c15
              by_cases c16 : ((rd_T41 l1 x7_2).f1) ≥ a0
              ·rw [if_pos c16] at H
               have c16b0 : decide (a0 ≤ ((rd_T41 l1 x7_2).f1)) = true := decide_eq_true c16
               clear c16
               simp only [Option.some.injEq, Prod.mk.injEq] at H
               obtain ⟨rfl, rfl⟩ := H
               have p148 : 0 ≤ (x7_2 : Int) := of_decide_eq_true (by first | (with_reducible assumption) | assumption)
               have q148 : x7_2 < (l1.length : Int) := of_decide_eq_true (by first | (with_reducible assumption) | assumption)
               obtain ⟨ad148, e148, hx148_0, hx148_1⟩ := at_T41 HR1.out x7_2 p148 q148
               cases e148
               replace hx148_0 := (HB.out.cell (World.block_lt_of_cell? w _ hx148_0)).trans hx148_0
               replace hx148_1 := (HB.out.cell (World.block_lt_of_cell? w _ hx148_1)).trans hx148_1
               replace p148 := eq_true p148
               replace q148 := eq_true q148
               have p149 : 0 ≤ (x7_2 : Int) := of_decide_eq_true (by first | (with_reducible assumption) | assumption)
               have q149 : x7_2 < (l1.length : Int) := of_decide_eq_true (by first | (with_reducible assumption) | assumption)
               obtain ⟨ad149, e149, hx149_0, hx149_1⟩ := at_T41 HR1.out x7_2 p149 q149
               obtain rfl : ad148 = ad149 := (by injection e149)
               replace hx149_0 := (HB.out.cell (World.block_lt_of_cell? w _ hx149_0)).trans hx149_0
               replace hx149_1 := (HB.out.cell (World.block_lt_of_cell? w _ hx149_1)).trans hx149_1
               replace p149 := eq_true p149
               replace q149 := eq_true q149
               have p150 : 0 ≤ (x7_2 : Int) := of_decide_eq_true (by first | (with_reducible assumption) | assumption)
               have q150 : x7_2 < (l1.length : Int) := of_decide_eq_true (by first | (with_reducible assumption) | assumption)
               obtain ⟨ad150, e150, hx150_0, hx150_1⟩ := at_T41 HR1.out x7_2 p150 q150
               obtain rfl : ad148 = ad150 := (by injection e150)
               replace hx150_0 := (HB.out.cell (World.block_lt_of_cell? w _ hx150_0)).trans hx150_0
               replace hx150_1 := (HB.out.cell (World.block_lt_of_cell? w _ hx150_1)).trans hx150_1
               replace p150 := eq_true p150
               replace q150 := eq_true q150
               have p151 : 0 ≤ (x7_2 : Int) := of_decide_eq_true (by first | (with_reducible assumption) | assumption)
               have q151 : x7_2 < (l1.length : Int) := of_decide_eq_true (by first | (with_reducible assumption) | assumption)
               obtain ⟨ad151, e151, hx151_0, hx151_1⟩ := at_T41 HR1.out x7_2 p151 q151
               obtain rfl : ad148 = ad151 := (by injection e151)
               replace hx151_0 := (HB.out.cell (World.block_lt_of_cell? w _ hx151_0)).trans hx151_0
               replace hx151_1 := (HB.out.cell (World.block_lt_of_cell? w _ hx151_1)).trans hx151_1
               replace p151 := eq_true p151
               replace q151 := eq_true q151
               go_wp2
               go_ret2
               exact ⟨_, by first | rfl | (simp [errW_none, errW_some] <;> rfl) | (simp [*, errW_none, errW_some] <;> rfl), by first | exact Kd.R_nil _ _ _ _ _ | exact Kd.N_nil _ _ _ _ _ | exact Kd.V_nil _ _ _ _ _ | exact Kd.Q_nil _ _ _ _ _ | exact Kd.S_nil _ _ _ _ _, by repeat (first | (with_reducible first | exact HB.out | apply below_alloc | apply pw_below_drewN | apply below_drew1) | exact HB.out)⟩
              ·rw [if_neg c16] at H
               have c16b0 : decide (a0 ≤ ((rd_T41 l1 x7_2).f1)) = false := decide_eq_false c16
               clear c16
               by_cases c17 : 0 ≤ ((rd_T41 l1 x7_2).f0)
               ·rw [if_pos c17] at H
                have c17b0 : decide (0 ≤ ((rd_T41 l1 x7_2).f0)) = true := decide_eq_true c17
                clear c17
                by_cases c18 : ((rd_T41 l1 x7_2).f0) < (x6_2.length : Int)
                ·rw [if_pos c18] at H
                 have c18b0 : decide (((rd_T41 l1 x7_2).f0) < (x6_2.length : Int)) = true := decide_eq_true c18
                 clear c18
                 by_cases c19 : 0 ≤ ((rd_T41 l1 x7_2).f1)
                 ·rw [if_pos c19] at H
                  have c19b0 := eq_true c19
                  have c19b1 : decide (0 ≤ ((rd_T41 l1 x7_2).f1)) = true := decide_eq_true c19
                  clear c19
                  obtain ⟨ji20, hji20⟩ : ∃ j_ : Int, (shl .i64 1 ((rd_T41 l1 x7_2).f1)) = j_ := ⟨_, rfl⟩
                  replace H : (pomaderef02_Town.l0 k2 a0 l1 (x6_2.set (((rd_T41 l1 x7_2).f0) : Int).toNat (Go.bits .or .i64 (rd x6_2 ((rd_T41 l1 x7_2).f0)) (ji20))) (wrap64 (x7_2 + 1))) = some (r1, r2) := by first | (rw [hji20] at H; exact H) | (simp only [hji20] at H ⊢; exact H)
                  have hji20_ : (IntKind.i64.wrap (1 * 2 ^ min ((rd_T41 l1 x7_2).f1).toNat 64)) = ji20 := hji20
                  have hji20z : ((rd_T41 l1 x7_2).f1) ≤ 64 → (IntKind.i64.wrap (1 * 2 ^ ((rd_T41 l1 x7_2).f1).toNat)) = ji20 := shl_small hji20
                  have hji20u : (IntKind.i64.wrap (2 ^ min ((rd_T41 l1 x7_2).f1).toNat 64)) = ji20 := by have h_ := hji20_; rw [Int.one_mul] at h_; exact h_
                  have hji20v : ((rd_T41 l1 x7_2).f1) ≤ 64 → (IntKind.i64.wrap (2 ^ ((rd_T41 l1 x7_2).f1).toNat)) = ji20 := fun hle_ => by have h_ := hji20z hle_; rw [Int.one_mul] at h_; exact h_
                  have hji20y : (wrap64 (1 * 2 ^ min ((rd_T41 l1 x7_2).f1).toNat 64)) = ji20 := (i64_w _).symm.trans hji20_
                  have hji20x : ((rd_T41 l1 x7_2).f1) ≤ 64 → (wrap64 (1 * 2 ^ ((rd_T41 l1 x7_2).f1).toNat)) = ji20 := fun h_ => (i64_w _).symm.trans (hji20z h_)
                  obtain ⟨y156, hy156⟩ : ∃ y_ : List Int, y_ = (x6_2.set (((rd_T41 l1 x7_2).f0) : Int).toNat (Go.bits .or .i64 (rd x6_2 ((rd_T41 l1 x7_2).f0)) (ji20))) := ⟨_, rfl⟩
                  replace H : (pomaderef02_Town.l0 k2 a0 l1 y156 (wrap64 (x7_2 + 1))) = some (r1, r2) := by first | (rw [hy156]; with_reducible exact H) | (have H2_ := (Option.bind_some _ _).symm.trans H; rw [hy156]; with_reducible exact H2_) | (have H2_ := (Option.bind_some _ _).symm.trans H; with_reducible exact H2_) | with_reducible exact H | (rw [hy156]; exact H) | exact H
                  have Ny156 := Aside0.mk hy156
                  clear hy156
                  have H' := Aside0.mk H
                  clear H
                  have p148 : 0 ≤ (x7_2 : Int) := of_decide_eq_true (by first | (with_reducible assumption) | assumption)
                  have q148 : x7_2 < (l1.length : Int) := of_decide_eq_true (by first | (with_reducible assumption) | assumption)
                  obtain ⟨ad148, e148, hx148_0, hx148_1⟩ := at_T41 HR1.out x7_2 p148 q148
                  cases e148
                  replace hx148_0 := (HB.out.cell (World.block_lt_of_cell? w _ hx148_0)).trans hx148_0
                  replace hx148_1 := (HB.out.cell (World.block_lt_of_cell? w _ hx148_1)).trans hx148_1
                  replace p148 := eq_true p148
                  replace q148 := eq_true q148
                  have p149 : 0 ≤ (x7_2 : Int) := of_decide_eq_true (by first | (with_reducible assumption) | assumption)
                  have q149 : x7_2 < (l1.length : Int) := of_decide_eq_true (by first | (with_reducible assumption) | assumption)
                  obtain ⟨ad149, e149, hx149_0, hx149_1⟩ := at_T41 HR1.out x7_2 p149 q149
                  obtain rfl : ad148 = ad149 := (by injection e149)
                  replace hx149_0 := (HB.out.cell (World.block_lt_of_cell? w _ hx149_0)).trans hx149_0
                  replace hx149_1 := (HB.out.cell (World.block_lt_of_cell? w _ hx149_1)).trans hx149_1
                  replace p149 := eq_true p149
                  replace q149 := eq_true q149
                  have p150 : 0 ≤ (x7_2 : Int) := of_decide_eq_true (by first | (with_reducible assumption) | assumption)
                  have q150 : x7_2 < (l1.length : Int) := of_decide_eq_true (by first | (with_reducible assumption) | assumption)
                  obtain ⟨ad150, e150, hx150_0, hx150_1⟩ := at_T41 HR1.out x7_2 p150 q150
                  obtain rfl : ad148 = ad150 := (by injection e150)
                  replace hx150_0 := (HB.out.cell (World.block_lt_of_cell? w _ hx150_0)).trans hx150_0
                  replace hx150_1 := (HB.out.cell (World.block_lt_of_cell? w _ hx150_1)).trans hx150_1
                  replace p150 := eq_true p150
                  replace q150 := eq_true q150
                  have p151 : 0 ≤ (x7_2 : Int) := of_decide_eq_true (by first | (with_reducible assumption) | assumption)
                  have q151 : x7_2 < (l1.length : Int) := of_decide_eq_true (by first | (with_reducible assumption) | assumption)
                  obtain ⟨ad151, e151, hx151_0, hx151_1⟩ := at_T41 HR1.out x7_2 p151 q151
                  obtain rfl : ad148 = ad151 := (by injection e151)
                  replace hx151_0 := (HB.out.cell (World.block_lt_of_cell? w _ hx151_0)).trans hx151_0
                  replace hx151_1 := (HB.out.cell (World.block_lt_of_cell? w _ hx151_1)).trans hx151_1
                  replace p151 := eq_true p151
                  replace q151 := eq_true q151
                  try go_wp2
                  have n0_ := Aside0.mk (Kd.R_drew HO_6.out)
                  have n1_ := Aside0.mk (below_drew1 HB.out)
                  clear HO_6
                  clear HB
                  have HO_6 := n0_
                  have HB := n1_
                  clear n0_ n1_
                  have p152 : 0 ≤ (x7_2 : Int) := of_decide_eq_true (by first | (with_reducible assumption) | assumption)
                  have q152 : x7_2 < (l1.length : Int) := of_decide_eq_true (by first | (with_reducible assumption) | assumption)
                  obtain ⟨ad152, e152, hx152_0, hx152_1⟩ := at_T41 HR1.out x7_2 p152 q152
                  have hw152_1 := hx152_1
                  have hw152_0 := hx152_0
                  obtain rfl : ad148 = ad152 := (by injection e152)
                  replace hx152_0 := (HB.out.cell (World.block_lt_of_cell? w _ hx152_0)).trans hx152_0
                  replace hx152_1 := (HB.out.cell (World.block_lt_of_cell? w _ hx152_1)).trans hx152_1
                  replace p152 := eq_true p152
                  replace q152 := eq_true q152
                  have p153 : 0 ≤ (x7_2 : Int) := of_decide_eq_true (by first | (with_reducible assumption) | assumption)
                  have q153 : x7_2 < (l1.length : Int) := of_decide_eq_true (by first | (with_reducible assumption) | assumption)
                  obtain ⟨ad153, e153, hx153_0, hx153_1⟩ := at_T41 HR1.out x7_2 p153 q153
                  have hw153_1 := hx153_1
                  have hw153_0 := hx153_0
                  obtain rfl : ad148 = ad153 := (by injection e153)
                  replace hx153_0 := (HB.out.cell (World.block_lt_of_cell? w _ hx153_0)).trans hx153_0
                  replace hx153_1 := (HB.out.cell (World.block_lt_of_cell? w _ hx153_1)).trans hx153_1
                  replace p153 := eq_true p153
                  replace q153 := eq_true q153
                  obtain ⟨Ao23, co23, eo23⟩ := Kd.R_slice HO_6.out
                  (first | subst eo23 | (injection eo23 with f1_ f2_ f3_; have f4_ := f1_.symm; have f5_ := f3_.symm; clear f1_ f2_ f3_; subst f4_; subst f5_))
                  have p154 : 0 ≤ (((rd_T41 l1 x7_2).f0) : Int) := of_decide_eq_true (by first | (with_reducible assumption) | assumption)
                  have q154 : ((rd_T41 l1 x7_2).f0) < (x6_2.length : Int) := of_decide_eq_true (by first | (with_reducible assumption) | assumption)
                  obtain ⟨ad154, e154, hx154_0⟩ := Kd.at_int (Kd.R_reads' HO_6.out).2.2 ((rd_T41 l1 x7_2).f0) p154 q154
                  cases e154
                  replace p154 := eq_true p154
                  replace q154 := eq_true q154
                  have p155 : 0 ≤ (x7_2 : Int) := of_decide_eq_true (by first | (with_reducible assumption) | assumption)
                  have q155 : x7_2 < (l1.length : Int) := of_decide_eq_true (by first | (with_reducible assumption) | assumption)
                  obtain ⟨ad155, e155, hx155_0, hx155_1⟩ := at_T41 HR1.out x7_2 p155 q155
                  have hw155_1 := hx155_1
                  have hw155_0 := hx155_0
                  obtain rfl : ad148 = ad155 := (by injection e155)
                  replace hx155_0 := (HB.out.cell (World.block_lt_of_cell? w _ hx155_0)).trans hx155_0
                  replace hx155_1 := (HB.out.cell (World.block_lt_of_cell? w _ hx155_1)).trans hx155_1
                  replace p155 := eq_true p155
                  replace q155 := eq_true q155
                  have p21 : 0 ≤ (((rd_T41 l1 x7_2).f0) : Int) := of_decide_eq_true (by first | (with_reducible assumption) | assumption)
                  have q21 : (((rd_T41 l1 x7_2).f0) : Int) < ((x6_2.length : Int) : Int) := of_decide_eq_true (by first | (with_reducible assumption) | assumption)
                  obtain ⟨go21, co21, eo21, gb21, gl21, cl21, HG21⟩ := Kd.R_form HO_6.out (by omega)
                  (first | cases eo21 | (injection eo21 with ea_ en_ ec_; (first | subst ea_ | (injection ea_ with ea_; subst ea_)); subst ec_; clear en_))
                  have GB21 := Aside0.mk gb21
                  have GG21 := Aside0.mk HG21
                  clear gb21 gl21 HG21
                  (first | simp only [add_plain] at hx154_0 | skip)
                  obtain ⟨hx21_0, hf21_0⟩ := Kd.R_celln 0 HO_6.out (((rd_T41 l1 x7_2).f0) : Int) p21 q21
                  replace p21 := eq_true p21
                  replace q21 := eq_true q21
                  have HP24 := Kd.R_putn HO_6.out (((rd_T41 l1 x7_2).f0) : Int) (Go.bits .or .i64 (rd x6_2 ((rd_T41 l1 x7_2).f0)) (ji20))
                  rw [← Ny156.out] at HP24
                  have HQ24 := Aside0.mk HP24
                  clear HP24
                  refine start_ (n := 23) (S := fun w' => w'.cell? (ad148.add ((x7_2).toNat * 2)) = some (.int .i64 ((rd_T41 l1 x7_2).f0)) ∧ w'.cell? ⟨(ad148.add ((x7_2).toNat * 2)).block, (ad148.add ((x7_2).toNat * 2)).off + 1, none⟩ = some (.int .i64 ((rd_T41 l1 x7_2).f1)) ∧ w'.cell? (ad148.add ((x7_2).toNat * 2)) = some (.int .i64 ((rd_T41 l1 x7_2).f0)) ∧ w'.cell? ⟨(ad148.add ((x7_2).toNat * 2)).block, (ad148.add ((x7_2).toNat * 2)).off + 1, none⟩ = some (.int .i64 ((rd_T41 l1 x7_2).f1)) ∧ w'.cell? ⟨go21, (((rd_T41 l1 x7_2).f0)).toNat, none⟩ = some (.int .i64 (rd x6_2 ((rd_T41 l1 x7_2).f0))) ∧ w'.cell? (ad148.add ((x7_2).toNat * 2)) = some (.int .i64 ((rd_T41 l1 x7_2).f0)) ∧ w'.cell? ⟨(ad148.add ((x7_2).toNat * 2)).block, (ad148.add ((x7_2).toNat * 2)).off + 1, none⟩ = some (.int .i64 ((rd_T41 l1 x7_2).f1))) (ds := [22]) #[false, false, false, false, false, false, false, false, false, false, false, false, false, false, false, false, false, false, false, false, false, false, false] (by kernel_rfl) rfl rfl ⟨((HB.out.cell (World.block_lt_of_cell? w _ hw152_0)).trans hw152_0), ((HB.out.cell (World.block_lt_of_cell? w _ hw152_1)).trans hw152_1), ((HB.out.cell (World.block_lt_of_cell? w _ hw153_0)).trans hw153_0), ((HB.out.cell (World.block_lt_of_cell? w _ hw153_1)).trans hw153_1), hx154_0, ((HB.out.cell (World.block_lt_of_cell? w _ hw155_0)).trans hw155_0), ((HB.out.cell (World.block_lt_of_cell? w _ hw155_1)).trans hw155_1)⟩ (fun hHeld => ?_); refine with_tabW pomaderef02_Town.tab11 pomaderef02_Town.bits11 (fun HT_ HW_ => ?_)
                  generalize wr.drew = w22 at HO_6 HB GG21 HQ24 hf21_0 hx152_0 hx152_1 hx153_0 hx153_1 hx154_0 hx155_0 hx155_1 hx21_0 hHeld ⊢
                  refine pure_ (i := 0) (N := some 57) (v := ?_) (a' := ?_) #[true, false, false, false, false, false, false, false, false, false, false, false, false, false, false, false, false, false, false, false, false, false, false] rfl rfl (any_of HT_.out (by kernel_rfl)) (fun _ _ _ h => h) (Or.inl ⟨by rfl, ?_⟩) ?_ ?_
                  rotate_left
                  ·intro w'
                   go_simp
                   with_reducible rfl
                  rotate_left
                  ·simp only [Act.put, List.setIfInBounds_toArray, List.set_cons_zero, List.set_cons_succ, i64_w, i32_w]
                   rfl
                  refine pure_ (i := 1) (N := some 58) (v := ?_) (a' := ?_) #[true, true, false, false, false, false, false, false, false, false, false, false, false, false, false, false, false, false, false, false, false, false, false] rfl rfl (any_of HT_.out (by kernel_rfl)) (fun _ _ _ h => h) (Or.inl ⟨by rfl, ?_⟩) ?_ ?_
                  rotate_left
                  ·intro w'
                   go_simp
                   with_reducible rfl
                  rotate_left
                  ·simp only [Act.put, List.setIfInBounds_toArray, List.set_cons_zero, List.set_cons_succ, i64_w, i32_w]
                   rfl
                  refine pure_ (i := 2) (N := some 59) (v := ?_) (a' := ?_) #[true, true, true, false, false, false, false, false, false, false, false, false, false, false, false, false, false, false, false, false, false, false, false] rfl rfl (any_of HT_.out (by kernel_rfl)) (fun _ _ _ h => h) (Or.inl ⟨by rfl, ?_⟩) ?_ ?_
                  rotate_left
                  ·intro w'
                   go_simp
                   with_reducible rfl
                  rotate_left
                  ·simp only [Act.put, List.setIfInBounds_toArray, List.set_cons_zero, List.set_cons_succ, i64_w, i32_w]
                   rfl
                  refine pure_ (i := 3) (N := some 60) (v := ?_) (a' := ?_) #[true, true, true, true, false, false, false, false, false, false, false, false, false, false, false, false, false, false, false, false, false, false, false] rfl rfl (any_of HT_.out (by kernel_rfl)) (fun _ _ _ h => h) (Or.inl ⟨by rfl, ?_⟩) ?_ ?_
                  rotate_left
                  ·intro w'
                   go_simp
                   with_reducible rfl
                  rotate_left
                  ·simp only [Act.put, List.setIfInBounds_toArray, List.set_cons_zero, List.set_cons_succ, i64_w, i32_w]
                   rfl
                  refine pure_ (i := 4) (N := some 61) (v := ?_) (a' := ?_) #[true, true, true, true, true, false, false, false, false, false, false, false, false, false, false, false, false, false, false, false, false, false, false] rfl rfl (any_of HT_.out (by kernel_rfl)) (fun _ _ _ h => h) (Or.inl ⟨by rfl, ?_⟩) ?_ ?_
                  rotate_left
                  ·intro w'
                   go_simp
                   with_reducible rfl
                  rotate_left
                  ·simp only [Act.put, List.setIfInBounds_toArray, List.set_cons_zero, List.set_cons_succ, i64_w, i32_w]
                   rfl
                  refine pure_ (i := 6) (N := some 63) (v := ?_) (a' := ?_) #[true, true, true, true, true, false, true, false, false, false, false, false, false, false, false, false, false, false, false, false, false, false, false] rfl rfl (any_of HT_.out (by kernel_rfl)) (fun _ _ _ h => h) (Or.inl ⟨by rfl, ?_⟩) ?_ ?_
                  rotate_left
                  ·intro w'
                   go_simp
                   with_reducible rfl
                  rotate_left
                  ·simp only [Act.put, List.setIfInBounds_toArray, List.set_cons_zero, List.set_cons_succ, i64_w, i32_w]
                   rfl
                  refine pure_ (i := 7) (N := some 64) (v := ?_) (a' := ?_) #[true, true, true, true, true, false, true, true, false, false, false, false, false, false, false, false, false, false, false, false, false, false, false] rfl rfl (any_of HT_.out (by kernel_rfl)) (fun _ _ _ h => h) (Or.inl ⟨by rfl, ?_⟩) ?_ ?_
                  rotate_left
                  ·intro w'
                   go_simp
                   with_reducible rfl
                  rotate_left
                  ·simp only [Act.put, List.setIfInBounds_toArray, List.set_cons_zero, List.set_cons_succ, i64_w, i32_w]
                   rfl
                  refine pure_ (i := 8) (N := some 65) (v := ?_) (a' := ?_) #[true, true, true, true, true, false, true, true, true, false, false, false, false, false, false, false, false, false, false, false, false, false, false] rfl rfl (any_of HT_.out (by kernel_rfl)) (fun _ _ _ h => h) (Or.inl ⟨by rfl, ?_⟩) ?_ ?_
                  rotate_left
                  ·intro w'
                   go_simp
                   with_reducible rfl
                  rotate_left
                  ·simp only [Act.put, List.setIfInBounds_toArray, List.set_cons_zero, List.set_cons_succ, i64_w, i32_w]
                   rfl
                  refine pure_ (i := 9) (N := some 66) (v := ?_) (a' := ?_) #[true, true, true, true, true, false, true, true, true, true, false, false, false, false, false, false, false, false, false, false, false, false, false] rfl rfl (any_of HT_.out (by kernel_rfl)) (fun _ _ _ h => h) (Or.inl ⟨by rfl, ?_⟩) ?_ ?_
                  rotate_left
                  ·intro w'
                   go_simp
                   with_reducible rfl
                  rotate_left
                  ·simp only [Act.put, List.setIfInBounds_toArray, List.set_cons_zero, List.set_cons_succ, i64_w, i32_w]
                   rfl
                  refine pure_ (i := 10) (N := some 67) (v := ?_) (a' := ?_) #[true, true, true, true, true, false, true, true, true, true, true, false, false, false, false, false, false, false, false, false, false, false, false] rfl rfl (any_of HT_.out (by kernel_rfl)) (fun _ _ _ h => h) (Or.inl ⟨by rfl, ?_⟩) ?_ ?_
                  rotate_left
                  ·intro w'
                   go_simp
                   with_reducible rfl
                  rotate_left
                  ·simp only [Act.put, List.setIfInBounds_toArray, List.set_cons_zero, List.set_cons_succ, i64_w, i32_w]
                   rfl
                  refine pure_ (i := 14) (N := some 71) (v := ?_) (a' := ?_) #[true, true, true, true, true, false, true, true, true, true, true, false, false, false, true, false, false, false, false, false, false, false, false] rfl rfl (any_of HT_.out (by kernel_rfl)) (fun _ _ _ h => h) (Or.inl ⟨by rfl, ?_⟩) ?_ ?_
                  rotate_left
                  ·intro w'
                   go_simp
                   with_reducible rfl
                  rotate_left
                  ·simp only [Act.put, List.setIfInBounds_toArray, List.set_cons_zero, List.set_cons_succ, i64_w, i32_w]
                   rfl
                  refine pure_ (i := 15) (N := some 72) (v := ?_) (a' := ?_) #[true, true, true, true, true, false, true, true, true, true, true, false, false, false, true, true, false, false, false, false, false, false, false] rfl rfl (any_of HT_.out (by kernel_rfl)) (fun _ _ _ h => h) (Or.inl ⟨by rfl, ?_⟩) ?_ ?_
                  rotate_left
                  ·intro w'
                   go_simp
                   with_reducible rfl
                  rotate_left
                  ·simp only [Act.put, List.setIfInBounds_toArray, List.set_cons_zero, List.set_cons_succ, i64_w, i32_w]
                   rfl
                  refine pure_ (i := 16) (N := some 73) (v := ?_) (a' := ?_) #[true, true, true, true, true, false, true, true, true, true, true, false, false, false, true, true, true, false, false, false, false, false, false] rfl rfl (any_of HT_.out (by kernel_rfl)) (fun _ _ _ h => h) (Or.inl ⟨by rfl, ?_⟩) ?_ ?_
                  rotate_left
                  ·intro w'
                   go_simp
                   with_reducible rfl
                  rotate_left
                  ·simp only [Act.put, List.setIfInBounds_toArray, List.set_cons_zero, List.set_cons_succ, i64_w, i32_w]
                   rfl
                  refine pure_ (i := 17) (N := some 74) (v := ?_) (a' := ?_) #[true, true, true, true, true, false, true, true, true, true, true, false, false, false, true, true, true, true, false, false, false, false, false] rfl rfl (any_of HT_.out (by kernel_rfl)) (fun _ _ _ h => h) (Or.inl ⟨by rfl, ?_⟩) ?_ ?_
                  rotate_left
                  ·intro w'
                   go_simp
                   with_reducible rfl
                  rotate_left
                  ·simp only [Act.put, List.setIfInBounds_toArray, List.set_cons_zero, List.set_cons_succ, i64_w, i32_w]
                   rfl
                  refine take_ (i := 5) (N := some 62) (v := ?_) (a' := ?_) #[true, true, true, true, true, true, true, true, true, true, true, false, false, false, true, true, true, true, false, false, false, false, false] rfl rfl (take_ofW HT_.out HW_.out (by kernel_rfl)) (fun _ _ _ h => h) (Or.inl ⟨by rfl, ?_⟩) hHeld ?_ ?_
                  rotate_left
                  ·rintro w' ⟨s0, s1, s2, s3, s4, s5, s6⟩
                   go_simp
                   with_reducible rfl
                  rotate_left
                  ·simp only [Act.put, List.setIfInBounds_toArray, List.set_cons_zero, List.set_cons_succ, i64_w, i32_w]
                   rfl
                  refine take_ (i := 11) (N := some 68) (v := ?_) (a' := ?_) #[true, true, true, true, true, true, true, true, true, true, true, true, false, false, true, true, true, true, false, false, false, false, false] rfl rfl (take_ofW HT_.out HW_.out (by kernel_rfl)) (fun _ _ _ h => h) (Or.inl ⟨by rfl, ?_⟩) hHeld ?_ ?_
                  rotate_left
                  ·rintro w' ⟨s0, s1, s2, s3, s4, s5, s6⟩
                   go_simp
                   with_reducible rfl
                  rotate_left
                  ·simp only [Act.put, List.setIfInBounds_toArray, List.set_cons_zero, List.set_cons_succ, i64_w, i32_w]
                   rfl
                  refine pure_ (i := 12) (N := some 69) (v := ?_) (a' := ?_) #[true, true, true, true, true, true, true, true, true, true, true, true, true, false, true, true, true, true, false, false, false, false, false] rfl rfl (any_of HT_.out (by kernel_rfl)) (fun _ _ _ h => h) (Or.inl ⟨by rfl, ?_⟩) ?_ ?_
                  rotate_left
                  ·intro w'
                   go_simp
                   with_reducible rfl
                  rotate_left
                  ·simp only [Act.put, List.setIfInBounds_toArray, List.set_cons_zero, List.set_cons_succ, i64_w, i32_w]
                   rfl
                  refine take_ (i := 13) (N := some 70) (v := ?_) (a' := ?_) #[true, true, true, true, true, true, true, true, true, true, true, true, true, true, true, true, true, true, false, false, false, false, false] rfl rfl (take_ofW HT_.out HW_.out (by kernel_rfl)) (fun _ _ _ h => h) (Or.inl ⟨by rfl, ?_⟩) hHeld ?_ ?_
                  rotate_left
                  ·rintro w' ⟨s0, s1, s2, s3, s4, s5, s6⟩
                   go_simp
                   with_reducible rfl
                  rotate_left
                  ·simp only [Act.put, List.setIfInBounds_toArray, List.set_cons_zero, List.set_cons_succ, i64_w, i32_w]
                   rfl
                  refine take_ (i := 18) (N := some 75) (v := ?_) (a' := ?_) #[true, true, true, true, true, true, true, true, true, true, true, true, true, true, true, true, true, true, true, false, false, false, false] rfl rfl (take_ofW HT_.out HW_.out (by kernel_rfl)) (fun _ _ _ h => h) (Or.inl ⟨by rfl, ?_⟩) hHeld ?_ ?_
                  rotate_left
                  ·rintro w' ⟨s0, s1, s2, s3, s4, s5, s6⟩
                   go_simp
                   with_reducible rfl
                  rotate_left
                  ·simp only [Act.put, List.setIfInBounds_toArray, List.set_cons_zero, List.set_cons_succ, i64_w, i32_w]
                   rfl
                  refine pure_ (i := 19) (N := some 76) (v := ?_) (a' := ?_) #[true, true, true, true, true, true, true, true, true, true, true, true, true, true, true, true, true, true, true, true, false, false, false] rfl rfl (any_of HT_.out (by kernel_rfl)) (fun _ _ _ h => h) (Or.inl ⟨by rfl, ?_⟩) ?_ ?_
                  rotate_left
                  ·intro w'
                   go_simp
                   with_reducible rfl
                  rotate_left
                  ·simp only [Act.put, List.setIfInBounds_toArray, List.set_cons_zero, List.set_cons_succ, i64_w, i32_w]
                   rfl
                  refine pure_ (i := 20) (N := some 77) (v := ?_) (a' := ?_) #[true, true, true, true, true, true, true, true, true, true, true, true, true, true, true, true, true, true, true, true, true, false, false] rfl rfl (any_of HT_.out (by kernel_rfl)) (fun _ _ _ h => h) (Or.inl ⟨by rfl, ?_⟩) ?_ ?_
                  rotate_left
                  ·intro w'
                   go_simp
                   with_reducible rfl
                  rotate_left
                  ·simp only [Act.put, List.setIfInBounds_toArray, List.set_cons_zero, List.set_cons_succ, i64_w, i32_w]
                   rfl
                  refine pure_ (i := 21) (N := some 78) (v := ?_) (a' := ?_) #[true, true, true, true, true, true, true, true, true, true, true, true, true, true, true, true, true, true, true, true, true, true, false] rfl rfl (any_of HT_.out (by kernel_rfl)) (fun _ _ _ h => h) (Or.inl ⟨by rfl, ?_⟩) ?_ ?_
                  rotate_left
                  ·intro w'
                   go_simp
                   with_reducible rfl
                  rotate_left
                  ·simp only [Act.put, List.setIfInBounds_toArray, List.set_cons_zero, List.set_cons_succ, i64_w, i32_w]
                   rfl
                  refine last_ (i := 22) (N := none) #[true, true, true, true, true, true, true, true, true, true, true, true, true, true, true, true, true, true, true, true, true, true, true] rfl rfl (one_of HT_.out (by kernel_rfl)) (by decide) (fun K hK => ?_)
                  refine skip_ (w1 := ?_) (by rfl) rfl ?_ ?_
                  rotate_left
                  ·go_simp
                   rfl
                  refine hK.out _ _ ?_
                  clear hK K
                  refine done_ (done_of HT_.out (by kernel_rfl)) ?_
                  try go_wp2
                  go_roundg k2
                  case measure => have := HJ2.out; have := HK2.out; omega
                  case rel => exact ⟨(y156), (wrap64 (x7_2 + 1)), (by first | rfl | (simp; done) | (simp [*]; done)), H', ⟨by have := HJ2.out; have := HK2.out; omega⟩, ⟨by (with_reducible repeat (first | apply Kd.R_alloc | apply Kd.R_drewN | apply Kd.R_drew)); exact HQ24.out⟩, ⟨by repeat (first | (with_reducible first | exact HB.out | apply below_alloc | apply pw_below_drewN | apply below_drew1 | refine below_set ?_ GB21.out) | exact HB.out)⟩⟩
                 ·rw [if_neg c19] at H
                  exact absurd H (by simp)
                ·rw [if_neg c18] at H
                 exact absurd H (by simp)
               ·rw [if_neg c17] at H
                exact absurd H (by simp)
          ·rw [if_neg c12] at H
           exact absurd H (by simp)
         ·rw [if_neg c11] at H
          have c11b0 : decide (x7_2 < (l1.length : Int)) = false := decide_eq_false c11
          clear c11
          simp only [Option.some.injEq, Prod.mk.injEq] at H
          obtain ⟨rfl, rfl⟩ := H
          go_wp2
          go_ret2
          exact ⟨_, by first | rfl | (simp [errW_none, errW_some] <;> rfl) | (simp [*, errW_none, errW_some] <;> rfl), by (with_reducible repeat (first | apply Kd.R_alloc | apply Kd.R_drewN | apply Kd.R_drew)); exact HO_6.out, by repeat (first | (with_reducible first | exact HB.out | apply below_alloc | apply pw_below_drewN | apply below_drew1) | exact HB.out)⟩
      ·rw [if_neg c8] at H
       exact absurd H (by simp)
     ·rw [if_neg c7] at H
      exact absurd H (by simp)
end Go.Proofs.Ytagmadfllfcloaa.PC
end
section
set_option linter.unusedVariables false
set_option linter.unusedSimpArgs false
/- The specification's Town tells the same error as the program's (plainly). -/
namespace Go.Proofs.Ytagmadfllfcloaa.PC
open Go.RowKit Go.Proofs.YtagmadfllfcloaaW.PrintWords Go.Proofs.YtagmadfllfcloaaW.PrintLast Go.Proofs.YtagmadfllfcloaaW.PrintMore
set_option linter.unusedVariables false
set_option linter.unusedSimpArgs false
theorem drop_all {n : Int} {l : List S41} {i : Nat} (hi : i < l.length) : (l.drop i).all (inT n) = (inT n (rd_T41 l (i : Int)) && (l.drop (i + 1)).all (inT n)) := by
  rw [List.drop_eq_getElem_cons hi, List.all_cons]
  have h : rd_T41 l (i : Int) = l[i] := by simp [rd_T41, List.getD_eq_getElem?_getD, hi]
  rw [h]
theorem town_loop (n : Int) (l : List S41) (hl : l.length ≤ 80) : ∀ (m i k : Nat) (o : List Int), l.length - i = m → i ≤ l.length → (o.length : Int) = n → m < k → ∃ r, pomaderef02_Town.l0 k n l o (i : Int) = some (r, if (l.drop i).all (inT n) then 0 else 2) := by
  intro m
  induction m with
  | zero =>
    intro i k o hm hi ho hk
    obtain ⟨k, rfl⟩ : ∃ j, k = j + 1 := ⟨k - 1, by omega⟩
    refine ⟨o, ?_⟩
    have h1 : ¬ ((i : Int) < (l.length : Int)) := by omega
    rw [pomaderef02_Town.l0, if_neg h1, List.drop_eq_nil_of_le (by omega)]
    rfl
  | succ m ih =>
    intro i k o hm hi ho hk
    obtain ⟨k, rfl⟩ : ∃ j, k = j + 1 := ⟨k - 1, by omega⟩
    have hil : i < l.length := by omega
    have h1 : (i : Int) < (l.length : Int) := by omega
    rw [drop_all hil]
    generalize hs : rd_T41 l (i : Int) = s
    rw [pomaderef02_Town.l0, if_pos h1, if_pos (by omega), hs]
    by_cases c1 : s.f0 < 0
    · rw [if_pos c1]; exact ⟨[], by rw [show inT n s = false from decide_eq_false (by omega)]; rfl⟩
    rw [if_neg c1]
    by_cases c2 : s.f0 ≥ n
    · rw [if_pos c2]; exact ⟨[], by rw [show inT n s = false from decide_eq_false (by omega)]; rfl⟩
    rw [if_neg c2]
    by_cases c3 : s.f1 < 0
    · rw [if_pos c3]; exact ⟨[], by rw [show inT n s = false from decide_eq_false (by omega)]; rfl⟩
    rw [if_neg c3]
    by_cases c4 : s.f1 ≥ n
    · rw [if_pos c4]; exact ⟨[], by rw [show inT n s = false from decide_eq_false (by omega)]; rfl⟩
    rw [if_neg c4, if_pos (by omega), if_pos (by omega), if_pos (by omega)]
    have hw : wrap64 ((i : Int) + 1) = ((i + 1 : Nat) : Int) := by
      exact wI (by omega)
    rw [hw]
    have hin : inT n s = true := decide_eq_true ⟨by omega, by omega, by omega, by omega⟩
    rw [hin, Bool.true_and]
    exact ih (i + 1) k _ (by omega) (by omega) (by rw [List.length_set]; exact ho) (by omega)
theorem town_both (n : Int) (l : List S41) : ∃ k r, pomaderef02_Town.f k n l = some (r, townE n l) := by
  by_cases c1 : n < 1
  · refine ⟨1, [], ?_⟩
    unfold townE pomaderef02_Town.f
    rw [if_pos c1, if_pos (Or.inl c1)]
    rfl
  by_cases c2 : n > 12
  · refine ⟨1, [], ?_⟩
    unfold townE pomaderef02_Town.f
    rw [if_neg c1, if_pos (Or.inr c2), decide_eq_true c2]
    rfl
  by_cases c3 : (l.length : Int) > 80
  · refine ⟨1, [], ?_⟩
    unfold townE pomaderef02_Town.f
    rw [if_neg c1, if_neg (by omega), if_pos (by omega), decide_eq_false c2]
    rw [pomaderef02_Town.j0, if_neg (by decide), if_pos c3]
  · obtain ⟨r, hr⟩ := town_loop n l (by omega) l.length 0 (l.length + 1) (List.replicate n.toNat 0) (by omega) (by omega) (by rw [List.length_replicate]; omega) (by omega)
    refine ⟨l.length + 2, r, ?_⟩
    unfold townE pomaderef02_Town.f
    rw [if_neg c1, if_neg (by omega), if_neg (by omega), decide_eq_false c2]
    rw [pomaderef02_Town.j0, if_neg (by decide), if_neg c3, if_pos (by omega), if_pos (by omega)]
    exact hr
end Go.Proofs.Ytagmadfllfcloaa.PC
end
section
set_option linter.unusedVariables false
set_option linter.unusedSimpArgs false
/- TopCycles: the walk. -/
namespace Go.Proofs.Ytagmadfllfcloaa.PC
open Go.RowKit Go.Proofs.YtagmadfllfcloaaW.PrintWords Go.Proofs.YtagmadfllfcloaaW.PrintLast Go.Proofs.YtagmadfllfcloaaW.PrintMore
set_option linter.unusedVariables false
set_option linter.unusedSimpArgs false
set_option maxHeartbeats 16000000 in
set_option maxRecDepth 100000 in
theorem cycles_walk (n : Int) (A1 : Option Addr) (c1 : Nat) (l1 : List S41) (w : World) (hr1 : Kd.C k41 w A1 l1.length l1) (hc1 : l1.length ≤ c1) :
    Calls Try.prog 4 #[.int .i64 n, .slice A1 l1.length c1] w fun e w' => e = .returned (.bool true) ∧ Below w.heap.size w w' := by
  have HSP := Lib.hid spoken_calls
  have HSE := Lib.hid (fun (wr : World) hr => sentences_walk n A1 c1 l1 wr hr)
  have HTN := Lib.hid (fun (wr : World) hr => show Calls Try.prog 10 #[.int .i64 n, .slice A1 l1.length c1] wr fun e w' => ∃ v0_ : Value, e = .returned (.tuple #[v0_, .int .i64 (townE n l1)]) ∧ Below wr.heap.size wr w' from by
    obtain ⟨k, r, h⟩ := town_both n l1
    exact (pomaderef02_Town.calls k n A1 c1 l1 r (townE n l1) wr hr hc1 h).mono fun e w' h => ⟨h.choose, h.choose_spec.1, h.choose_spec.2.2⟩)
  have HOD := Lib.hid (fun (wr : World) hr => odd_walk n A1 c1 l1 wr hr)
  have HR1 := Aside0.mk hr1
  obtain ⟨N, hN⟩ : ∃ N, l1.length = N := ⟨_, rfl⟩
  rw [hN] at HR1 HSE HTN HOD ⊢
  obtain ⟨E, hE⟩ : ∃ E, townE n l1 = E := ⟨_, rfl⟩
  rw [hE] at HTN
  have HE := Aside0.mk hE
  clear hr1 hN hc1 hE
  go_enter Try.func4, Try.ntmps4
  go_wp2_with (fail)
  refine (HTN.out _ HR1.out).mono ?_; rintro e wa ⟨v5, rfl, hba⟩
  have HBA := Aside0.mk hba
  clear hba HTN
  by_cases cb1 : 150 < N
  · have d1 : decide ((150 : Int) < (N : Int)) = true := decide_eq_true (by omega)
    have d1n : (150 < N) = True := eq_true cb1
    clear cb1
    go_wp2_with (fail)
    refine (HSP.out _).mono ?_; rintro e wb ⟨rfl, hb⟩
    have HB := Aside0.mk (HBA.out.trans (hb.mono HBA.out.size))
    clear hb
    go_wp2_with (fail)
    go_ret
    exact ⟨rfl, HB.out⟩
  have d1 : decide ((150 : Int) < (N : Int)) = false := decide_eq_false (by omega)
  have d1n : (150 < N) = False := eq_false cb1
  clear cb1
  by_cases cb2 : 7 < n
  · have d2 : decide (7 < n) = true := decide_eq_true cb2
    have d2n : (7 < n) = True := eq_true cb2
    clear cb2
    go_wp2_with (fail)
    refine (HSP.out _).mono ?_; rintro e wb ⟨rfl, hb⟩
    have HB := Aside0.mk (HBA.out.trans (hb.mono HBA.out.size))
    clear hb
    go_wp2_with (fail)
    go_ret
    exact ⟨rfl, HB.out⟩
  have d2 : decide (7 < n) = false := decide_eq_false cb2
  have d2n : (7 < n) = False := eq_false cb2
  have HN7 := Aside0.mk cb2
  clear cb2
  by_cases cE : E = 0
  · subst cE
    go_wp2_with (fail)
    refine (HSE.out _ (Kd.C_below HR1.out HBA.out)).mono ?_; rintro e wb ⟨v7, rfl, hr7, hbb⟩
    obtain ⟨A7, c7, rfl⟩ := Kd.R_slice hr7
    have hz := townE_zero' HE.out
    have HBB := Aside0.mk (HBA.out.trans (hbb.mono HBA.out.size))
    have hcs : (sentF n l1).2 = 8 ∨ (sentF n l1 = ((sentMs n l1).map combB, 0) ∧ sentOk (sentMs n l1) = true) := by
      unfold sentF
      rw [if_neg (fun h => h HE.out), if_neg (by have := HN7.out; omega)]
      by_cases c2 : sentOk (sentMs n l1) = true
      · rw [if_pos c2]; exact .inr ⟨rfl, c2⟩
      · rw [if_neg c2]; exact .inl rfl
    rcases hcs with h8 | ⟨hsf, hok⟩
    · obtain ⟨F, hF⟩ : ∃ F, (sentF n l1).2 = F := ⟨_, rfl⟩
      rw [hF] at h8 ⊢
      obtain ⟨N8, hN8⟩ : ∃ N8, (sentF n l1).1.length = N8 := ⟨_, rfl⟩
      rw [hN8]
      subst h8
      clear hF hN8 hz hr7 hbb
      go_wp2_with (fail)
      refine (HSP.out _).mono ?_; rintro e wc ⟨rfl, hb⟩
      have HB := Aside0.mk (HBB.out.trans (hb.mono HBB.out.size))
      clear hb
      go_wp2_with (fail)
      go_ret
      exact ⟨rfl, HB.out⟩
    · obtain ⟨M, rfl⟩ := Int.eq_ofNat_of_zero_le (show 0 ≤ n by omega)
      have hM : 1 ≤ M ∧ M ≤ 10 := by have := HN7.out; omega
      have hin := townO_in M (by omega) l1 hz.2.2
      have hml : (sentMs (M : Int) l1).length = M := by simp [sentMs]
      have hsl : (sentF (M : Int) l1).1.length = M := by rw [hsf, List.length_map, hml]
      have hs2 : (sentF (M : Int) l1).2 = 0 := by rw [hsf]
      rw [hsl, hsf] at hr7
      rw [hsl, hs2]
      have HC7 := Aside0.mk (show Kd.C Kd.string wb A7 M ((sentMs (M : Int) l1).map combB) by have h := (Kd.R_reads' hr7).2.2; rw [List.length_map, hml] at h; exact h)
      have HCY := Lib.hid (fun (wr : World) hr => cycle_walk (sentMs (M : Int) l1) M hml hM.1 hM.2 (sent_ok hM.2 hin hok) A7 c7 wr hr)
      have HEQ := Aside0.mk (cyc_odd M (by omega) (townO l1) hin (sentMs (M : Int) l1) (fun i hi => sentMs_getD M l1 i hi))
      have HM := Aside0.mk hM
      clear hz hsf hok hM hin hml hsl hs2 hr7 hbb HSE
      go_wp2_with (fail)
      refine (HCY.out _ HC7.out).mono ?_; rintro e wc ⟨A9, c9, E9, la, rfl, hc9, hcy, hl9, hbc⟩
      have HC9 := Aside0.mk hc9
      have HY9 := Aside0.mk (And.intro hcy hl9)
      have HBC := Aside0.mk (HBB.out.trans (hbc.mono HBB.out.size))
      clear hc9 hcy hl9 hbc HBB HC7 HCY
      go_wp2_with (fail)
      refine (HOD.out _ (Kd.C_below HR1.out HBC.out)).mono ?_; rintro e wd ⟨A10, c10, E10, lb, rfl, hc10, hod, hbd⟩
      have hod2 : (lb, E10) = oddF M (townO l1) := by
        rcases hod with ⟨h, _⟩ | ⟨_, h, _⟩
        · exact absurd HE.out h
        · rw [Int.toNat_natCast] at h; exact h
      have hll : la = lb ∧ E9 = E10 := by
        have h := HY9.out.1
        rw [HEQ.out, ← hod2] at h
        exact ⟨congrArg Prod.fst h, congrArg Prod.snd h⟩
      obtain ⟨rfl, rfl⟩ := hll
      have HC9d := Aside0.mk (Kd.C_below HC9.out hbd)
      have HC10 := Aside0.mk hc10
      have HBD := Aside0.mk (HBC.out.trans (hbd.mono HBC.out.size))
      obtain ⟨K, hK⟩ : ∃ K, la.length = K := ⟨_, rfl⟩
      rw [hK] at HC9d HC10 ⊢
      have HKL := Aside0.mk (And.intro hK (show K ≤ 12 by have := HY9.out.2; omega))
      clear hc10 hod hbd hod2 hK HC9 HBC HOD HY9
      go_wp2_with (fail)
      go_loopw [12] (fun v12 wr => ∃ i : Nat, i ≤ K ∧ v12 = .int .i64 (i : Int) ∧ Aside0 (Below wd.heap.size wd wr)) (fun v12 _ => K - (intOf v12).toNat)
      case atStart => exact ⟨0, by omega, rfl, ⟨Below.refl _ _⟩⟩
      case round =>
        obtain ⟨i, hi, rfl, HB⟩ := hrel
        by_cases hiK : i < K
        · have d4 : decide ((i : Int) < (K : Int)) = true := decide_eq_true (by omega)
          have d4n : (i < K) = True := eq_true hiK
          obtain ⟨adA, eA, hcA⟩ := at_scalar HC9d.out i hiK (by have := HKL.out; omega)
          obtain ⟨adB, eB, hcB⟩ := at_scalar HC10.out i hiK (by have := HKL.out; omega)
          subst eA; subst eB
          replace hcA := (HB.out.cell (World.block_lt_of_cell? wd _ hcA)).trans hcA
          replace hcB := (HB.out.cell (World.block_lt_of_cell? wd _ hcB)).trans hcB
          obtain ⟨x, hx⟩ : ∃ x, la[i]'(by have := HKL.out; omega) = x := ⟨_, rfl⟩
          rw [hx] at hcA hcB
          clear hx
          go_wp2_with (first | go_quiet (fail))
          go_roundw
          case rel => exact ⟨i + 1, by omega, vI (by have := HKL.out; omega), ⟨pw_below_drewN HB.out _⟩⟩
          case measure => exact mstepA hiK (by have := HKL.out; omega)
        · have d4 : decide ((i : Int) < (K : Int)) = false := decide_eq_false (by omega)
          have d4n : (i < K) = False := eq_false hiK
          go_wp2_with (fail)
          refine (HSP.out _).mono ?_; rintro e we ⟨rfl, hb⟩
          have HBE := Aside0.mk (HBD.out.trans ((HB.out.trans (hb.mono HB.out.size)).mono HBD.out.size))
          clear hb
          go_wp2_with (fail)
          go_ret
          exact ⟨rfl, HBE.out⟩
  · have d3 : (E == 0) = false := beq_eq_false_iff_ne.2 cE
    have d3n : (E = 0) = False := eq_false cE
    clear cE
    go_wp2_with (fail)
    refine (HSP.out _).mono ?_; rintro e wb ⟨rfl, hb⟩
    have HB := Aside0.mk (HBA.out.trans (hb.mono HBA.out.size))
    clear hb
    go_wp2_with (fail)
    go_ret
    exact ⟨rfl, HB.out⟩
end Go.Proofs.Ytagmadfllfcloaa.PC
end
