/- Parts of the proof of LawPlaitWords, one behind the other: PCg5 PCf24 PCf27 PCg1 PCf3 MGlue MOrb MJoin LProd PCg6 LPart LLoop. -/
import Derived.Lib.Hide
import Derived.Test.YtjfkompfkgjdaaaJPlaitWords4
section
namespace Go.Proofs.Ytjfkompfkgjdaaa.PC
open Go.RowKit Go.Proofs.YtjfkompfkgjdaaaW.PrintWords Go.Proofs.YtjfkompfkgjdaaaW.PrintLast Go.Proofs.YtjfkompfkgjdaaaW.PrintMore
attribute [local go_sem] max2_int min2_int max_two min_two max_three min_three max_four min_four   -- for this text's walks alone
set_option linter.unusedVariables false
set_option linter.unusedSimpArgs false
/-! ### plait_partners: function 61 -/
def plait_partners.l0 : Nat → ByteArray → List Int → List Int → Int → Int → Option (List Int × Int)
 | 0, _, _, _, _, _ => none
 | k + 1, x0, x4, x5, x15, x16 => if x16 < x15 then (if 0 ≤ x16 then (if x16 < (x0.size : Int) then (if (bt x0 x16) = 40 then (if x5.length < 17592186044416 then (plait_partners.l0 k x0 x4 (x5 ++ [x16]) x15 (wrap64 (x16 + 1))) else (none)) else (if (bt x0 x16) = 41 then (if (x5.length : Int) > 0 then (if 0 ≤ (wrap64 ((x5.length : Int) - 1)) then (if (wrap64 ((x5.length : Int) - 1)) < (x5.length : Int) then (if (wrap64 ((x5.length : Int) - 1)) ≤ (x5.length : Int) then (if x16 < (x4.length : Int) then (if 0 ≤ (rd x5 (wrap64 ((x5.length : Int) - 1))) then (if (rd x5 (wrap64 ((x5.length : Int) - 1))) < (x4.length : Int) then (plait_partners.l0 k x0 ((x4.set (x16 : Int).toNat (rd x5 (wrap64 ((x5.length : Int) - 1)))).set ((rd x5 (wrap64 ((x5.length : Int) - 1))) : Int).toNat x16) (x5.take ((wrap64 ((x5.length : Int) - 1)) : Int).toNat) x15 (wrap64 (x16 + 1))) else (none)) else (none)) else (none)) else (none)) else (none)) else (none)) else (some (([] : List Int), 5))) else (some (([] : List Int), 5)))) else (none)) else (none)) else (if (x5.length : Int) > 0 then (some (([] : List Int), 5)) else (if x0.toList = ([] : List UInt8) then (some (([] : List Int), 5)) else (some (x4, 0))))
def plait_partners.f (k : Nat) (a0 : ByteArray) : Option (List Int × Int) := if (a0.size : Int) > 24 then (some (([] : List Int), 3)) else (if 0 ≤ (a0.size : Int) then (if ((a0.size : Int) : Int).toNat ≤ 35184372088832 then (plait_partners.l0 k a0 (List.replicate ((a0.size : Int) : Int).toNat 0) ([] : List Int) (a0.size : Int) 0) else (none)) else (none))
theorem plait_partners.mono_l : ∀ k, (∀ y0 y1 y2 y3 y4, LeO (plait_partners.l0 k y0 y1 y2 y3 y4) (plait_partners.l0 (k + 1) y0 y1 y2 y3 y4))
 | 0 => fun _ _ _ _ _ r h => by simp [plait_partners.l0] at h
 | k + 1 => by
  have ih0 := plait_partners.mono_l k
  ·intro y0 y1 y2 y3 y4
   unfold plait_partners.l0
   repeat' first
   | (with_reducible exact ih0 _ _ _ _ _)
   | (with_reducible exact LeO.refl _)
   | (with_reducible exact LeO.none _)
   | (with_reducible refine LeO.ite ?_ ?_)
   | (with_reducible refine LeO.bind ?_ (fun _ => ?_))
   | exact ih0 _ _ _ _ _
   | exact LeO.none _
   | refine LeO.ite ?_ ?_
   | refine LeO.bind ?_ (fun _ => ?_)
theorem plait_partners.mono : ∀ a0 k, LeO (plait_partners.f k a0) (plait_partners.f (k + 1) a0) := by
 intro a0 k
 have ih0 := plait_partners.mono_l k
 unfold plait_partners.f
 repeat' first
   | (with_reducible exact ih0 _ _ _ _ _)
   | (with_reducible exact LeO.refl _)
   | (with_reducible exact LeO.none _)
   | (with_reducible refine LeO.ite ?_ ?_)
   | (with_reducible refine LeO.bind ?_ (fun _ => ?_))
   | exact ih0 _ _ _ _ _
   | exact LeO.none _
   | refine LeO.ite ?_ ?_
   | refine LeO.bind ?_ (fun _ => ?_)
set_option maxHeartbeats 8000000 in
set_option maxRecDepth 100000 in
theorem plait_partners.calls (k : Nat) (a0 : ByteArray) (r1 : List Int) (r2 : Int) (w : World) (h : plait_partners.f k a0 = some (r1, r2)) :
  Calls Try.prog 61 #[.string a0] w fun e w' => ∃ v0_ : Value, e = .returned (.tuple #[v0_, .int .i64 r2]) ∧ Kd.R (Kd.int .i64) 3 w' w.heap.size (fun _ => True) v0_ r1 ∧ Below w.heap.size w w' := by
 have HB := Aside0.mk (Below.refl w.heap.size w)
 have H : (if (a0.size : Int) > 24 then (some (([] : List Int), 3)) else (if 0 ≤ (a0.size : Int) then (if ((a0.size : Int) : Int).toNat ≤ 35184372088832 then (plait_partners.l0 k a0 (List.replicate ((a0.size : Int) : Int).toNat 0) ([] : List Int) (a0.size : Int) 0) else (none)) else (none))) = some (r1, r2) := h
 clear h
 by_cases c2 : (a0.size : Int) > 24
 ·rw [if_pos c2] at H
  have c2b0 : decide (24 < (a0.size : Int)) = true := decide_eq_true c2
  have c2b1 : decide (24 < a0.size) = true := decide_eq_true (by omega)
  clear c2
  simp only [Option.some.injEq, Prod.mk.injEq] at H
  obtain ⟨rfl, rfl⟩ := H
  go_enter Try.func61, Try.ntmps61
  go_wp2
  go_ret2
  exact ⟨_, by first | rfl | (simp [errW_none, errW_some] <;> rfl) | (simp [*, errW_none, errW_some] <;> rfl), by first | exact Kd.R_nil _ _ _ _ _ | exact Kd.N_nil _ _ _ _ _ | exact Kd.V_nil _ _ _ _ _ | exact Kd.Q_nil _ _ _ _ _ | exact Kd.S_nil _ _ _ _ _, by repeat (first | (with_reducible first | exact HB.out | apply below_alloc | apply pw_below_drewN | apply below_drew1) | exact HB.out)⟩
 ·rw [if_neg c2] at H
  have c2b0 : decide (24 < (a0.size : Int)) = false := decide_eq_false c2
  have c2b1 : decide (24 < a0.size) = false := decide_eq_false (by omega)
  clear c2
  by_cases c3 : 0 ≤ (a0.size : Int)
  ·rw [if_pos c3] at H
   have c3b0 := eq_true c3
   have c3b1 : decide (0 ≤ (a0.size : Int)) = true := decide_eq_true c3
   clear c3
   by_cases c4 : ((a0.size : Int) : Int).toNat ≤ 35184372088832
   ·rw [if_pos c4] at H
    have c4b0 := eq_true c4
    have c4b1 : decide (((a0.size : Int) : Int).toNat ≤ 35184372088832) = true := decide_eq_true c4
    clear c4
    obtain ⟨y201, hy201⟩ : ∃ y_ : List Int, y_ = (List.replicate ((a0.size : Int) : Int).toNat 0) := ⟨_, rfl⟩
    replace H : (plait_partners.l0 k a0 y201 ([] : List Int) (a0.size : Int) 0) = some (r1, r2) := by first | (rw [hy201]; with_reducible exact H) | (have H2_ := (Option.bind_some _ _).symm.trans H; rw [hy201]; with_reducible exact H2_) | (have H2_ := (Option.bind_some _ _).symm.trans H; with_reducible exact H2_) | with_reducible exact H | (rw [hy201]; exact H) | exact H
    have Ny201 := Aside0.mk hy201
    clear hy201
    have H' := Aside0.mk H
    clear H
    go_enter Try.func61, Try.ntmps61
    go_wp2_with (first | ((with_reducible refine gate_dst (N := 13) rfl ?_); (try (refine gate_guard (by rfl) ?_; dsimp only)); refine Kd.R_make (Kd.int .i64) _ 3 rfl (N := 13) rfl 22 _ _ rfl (a0.size : Int) rfl rfl Try.underlying22 (.int .i64 0) 8 info3 rfl (by decide) (by omega) 0 (ok := fun _ => True) (okp := fun _ => True) rfl (fun _ hk => hk) trivial (of_decide_eq_true (by first | (with_reducible assumption) | assumption)) (Nat.le_trans (Nat.mul_le_mul_right _ (of_decide_eq_true (by first | (with_reducible assumption) | assumption) : (a0.size : Int).toNat ≤ 35184372088832)) (by omega)) (Below.refl _ _) (Nat.le_refl _) ?_; intro v202 w5 ho6 hb hg_ hnew_; clear hg_ hnew_; (first | rw [← Ny201.out] at ho6 | (simp only [Int.reduceToNat] at ho6; rw [← Ny201.out] at ho6)); have n0_ := Aside0.mk (Kd.R_lower ho6 (below_size (by repeat (first | (with_reducible first | exact HB.out | apply below_alloc | apply pw_below_drewN | apply below_drew1) | exact HB.out)))); have n1_ := Aside0.mk (below_step (by repeat (first | (with_reducible first | exact HB.out | apply below_alloc | apply pw_below_drewN | apply below_drew1) | exact HB.out)) hb); clear HB; have HO203 := n0_; have HB := n1_; clear n0_ n1_; clear hb ho6))
    go_loopg [5, 16] k (fun kq v5 v16 w' => ∃ (x4_1 : List Int) (x5_1 : List Int) (x16_1 : Int), v16 = .int .i64 x16_1 ∧ Aside0 (plait_partners.l0 kq a0 x4_1 x5_1 (a0.size : Int) x16_1 = some (r1, r2)) ∧ Aside0 (kq ≤ k) ∧ Aside0 (Kd.R (Kd.int .i64) 3 w' w.heap.size (fun k_ => some k_ ≠ (v5 : Value).ownBlock) v202 x4_1) ∧ Aside0 (Kd.R (Kd.int .i64) 3 w' w.heap.size (fun k_ => some k_ ≠ (v202 : Value).ownBlock) v5 x5_1) ∧ Aside0 (Below w.heap.size w w'))
    case atStart => exact ⟨(y201), (([] : List Int)), (0), (by first | rfl | (simp; done) | (simp [*]; done)), H', ⟨Nat.le_refl _⟩, ⟨by (with_reducible repeat (first | apply Kd.R_alloc | apply Kd.R_drewN | apply Kd.R_drew)); exact Kd.R_mono HO203.out (fun _ hk => (by simp [Value.ownBlock]))⟩, ⟨by first | exact Kd.R_nil _ _ _ _ _ | exact Kd.N_nil _ _ _ _ _ | exact Kd.V_nil _ _ _ _ _ | exact Kd.Q_nil _ _ _ _ _ | exact Kd.S_nil _ _ _ _ _⟩, ⟨by repeat (first | (with_reducible first | exact HB.out | apply below_alloc | apply pw_below_drewN | apply below_drew1) | exact HB.out)⟩⟩
    case round =>
     clear H'
     try clear c2
     try clear c2b0
     try clear c2b1
     try clear p2
     try clear c3
     try clear c3b0
     try clear c3b1
     try clear c4
     try clear c4b0
     try clear c4b1
     try clear c6
     obtain ⟨x4_1, x5_1, x16_1, rfl, HA, HK1, HO_4, HO_5, HB⟩ := hrel
     cases gk with
     | zero => exact absurd HA.out (by simp [plait_partners.l0])
     | succ k1 =>
      have H := HA.out
      clear HA
      simp only [plait_partners.l0] at H
      by_cases c7 : x16_1 < (a0.size : Int)
      ·rw [if_pos c7] at H
       have c7b0 : decide (x16_1 < (a0.size : Int)) = true := decide_eq_true c7
       clear c7
       by_cases c8 : 0 ≤ x16_1
       ·rw [if_pos c8] at H
        have c8b0 : decide (0 ≤ x16_1) = true := decide_eq_true c8
        clear c8
        by_cases c9 : x16_1 < (a0.size : Int)
        ·rw [if_pos c9] at H
         have c9b0 : decide (x16_1 < (a0.size : Int)) = true := decide_eq_true c9
         clear c9
         by_cases c11 : (bt a0 x16_1) = 40
         ·rw [if_pos c11] at H
          have c11b0 : ((bt a0 x16_1) == 40) = true := beq_iff_eq.mpr c11
          have c11b1 : ((bt a0 x16_1) != 40) = false := bne_eq_false_iff_eq.mpr c11
          clear c11
          by_cases c12 : x5_1.length < 17592186044416
          ·rw [if_pos c12] at H
           have LMc12 := Aside0.mk c12
           clear c12
           obtain ⟨y204, hy204⟩ : ∃ y_ : List Int, y_ = (x5_1 ++ [x16_1]) := ⟨_, rfl⟩
           replace H : (plait_partners.l0 k1 a0 x4_1 y204 (a0.size : Int) (wrap64 (x16_1 + 1))) = some (r1, r2) := by first | (rw [hy204]; with_reducible exact H) | (have H2_ := (Option.bind_some _ _).symm.trans H; rw [hy204]; with_reducible exact H2_) | (have H2_ := (Option.bind_some _ _).symm.trans H; with_reducible exact H2_) | with_reducible exact H | (rw [hy204]; exact H) | exact H
           have Ny204 := Aside0.mk hy204
           clear hy204
           have H' := Aside0.mk H
           clear H
           have p10 : 0 ≤ (x16_1 : Int) := of_decide_eq_true (by first | (with_reducible assumption) | assumption)
           have q10 : x16_1 < (a0.size : Int) := of_decide_eq_true (by first | (with_reducible assumption) | assumption)
           have hx10 := bt_at a0 x16_1
           replace p10 := eq_true p10
           replace q10 := eq_true q10
           go_wp2_with (first | ((with_reducible refine gate_builtin (b := .append) (xs := #[.tmp 24, .tmp 26]) rfl ?_); (try (refine gate_guard (by rfl) ?_; dsimp only)); at_builtin; refine Kd.R_append (Kd.int .i64) (w0 := w) w.heap.size rfl (.tmp 24) (.tmp 26) 22 3 (.int .i64 0) 8 rfl Try.underlying22 info3 rfl (by decide) (by omega) u5 x5_1 x16_1 [.int .i64 x16_1] (fun k_ => some k_ ≠ (v202 : Value).ownBlock) (fun _ => False) rfl rfl ?aP (fun _ hk => hk.elim) ?aF ?aO ?aB ?aS ?aL ?_; (case aP => exact rfl); (case aB => exact (by repeat (first | (with_reducible first | exact HB.out | apply below_alloc | apply pw_below_drewN | apply below_drew1) | exact HB.out))); (case aF => exact (fun k_ hk => Kd.fresh' (Kd.R_lt (by (with_reducible repeat (first | apply Kd.R_alloc | apply Kd.R_drewN | apply Kd.R_drew)); exact HO_4.out)) k_ hk)); (case aO => exact (by (with_reducible repeat (first | apply Kd.R_alloc | apply Kd.R_drewN | apply Kd.R_drew)); exact HO_5.out)); (case aS => exact (below_size (by repeat (first | (with_reducible first | exact HB.out | apply below_alloc | apply pw_below_drewN | apply below_drew1) | exact HB.out)))); (case aL => have := LMc12.out; omega); intro v205 w13 ho hb hg hat; rw [← Ny204.out] at ho; have n0_ := Aside0.mk (Kd.R_after (ok := (fun _ => True)) (by (with_reducible repeat (first | apply Kd.R_alloc | apply Kd.R_drewN | apply Kd.R_drew)); exact Kd.R_mono HO_4.out (fun _ hk => ⟨trivial, hk⟩)) hg hat); have n1_ := Aside0.mk (hb); have n2_ := Aside0.mk (ho); clear HO_4; clear HB; clear HO_5; have HO_4 := n0_; have HB := n1_; have HO206 := n2_; clear n0_ n1_ n2_; clear ho hb hg hat))
           go_roundg k1
           case measure => have := HK1.out; omega
           case rel => exact ⟨(x4_1), (y204), (wrap64 (x16_1 + 1)), (by first | rfl | (simp; done) | (simp [*]; done)), H', ⟨by have := HK1.out; omega⟩, ⟨by (with_reducible repeat (first | apply Kd.R_alloc | apply Kd.R_drewN | apply Kd.R_drew)); exact Kd.R_mono HO_4.out (fun _ hk => hk.2)⟩, ⟨by (with_reducible repeat (first | apply Kd.R_alloc | apply Kd.R_drewN | apply Kd.R_drew)); exact HO206.out⟩, ⟨by repeat (first | (with_reducible first | exact HB.out | apply below_alloc | apply pw_below_drewN | apply below_drew1) | exact HB.out)⟩⟩
          ·rw [if_neg c12] at H
           exact absurd H (by simp)
         ·rw [if_neg c11] at H
          have c11b0 : ((bt a0 x16_1) == 40) = false := beq_eq_false_iff_ne.mpr c11
          have c11b1 : ((bt a0 x16_1) != 40) = true := bne_iff_ne.mpr c11
          by_cases c15 : (bt a0 x16_1) = 41
          ·rw [if_pos c15] at H
           have c15b0 : ((bt a0 x16_1) == 41) = true := beq_iff_eq.mpr c15
           have c15b1 : ((bt a0 x16_1) != 41) = false := bne_eq_false_iff_eq.mpr c15
           clear c15
           by_cases c16 : (x5_1.length : Int) > 0
           ·rw [if_pos c16] at H
            have c16b0 : decide (0 < (x5_1.length : Int)) = true := decide_eq_true c16
            have c16b1 : decide (0 < x5_1.length) = true := decide_eq_true (by omega)
            clear c16
            obtain ⟨ji17, hji17⟩ : ∃ j_ : Int, (wrap64 ((x5_1.length : Int) - 1)) = j_ := ⟨_, rfl⟩
            replace H : (if 0 ≤ (ji17) then (if (ji17) < (x5_1.length : Int) then (if (ji17) ≤ (x5_1.length : Int) then (if x16_1 < (x4_1.length : Int) then (if 0 ≤ (rd x5_1 (ji17)) then (if (rd x5_1 (ji17)) < (x4_1.length : Int) then (plait_partners.l0 k1 a0 ((x4_1.set (x16_1 : Int).toNat (rd x5_1 (ji17))).set ((rd x5_1 (ji17)) : Int).toNat x16_1) (x5_1.take ((ji17) : Int).toNat) (a0.size : Int) (wrap64 (x16_1 + 1))) else (none)) else (none)) else (none)) else (none)) else (none)) else (none)) = some (r1, r2) := by first | (rw [hji17] at H; exact H) | (simp only [hji17] at H ⊢; exact H)
            have hji17w : (IntKind.i64.wrap ((x5_1.length : Int) - 1)) = ji17 := (i64_w _).trans hji17
            by_cases c18 : 0 ≤ (ji17)
            ·rw [if_pos c18] at H
             have c18b0 : decide (0 ≤ (ji17)) = true := decide_eq_true c18
             clear c18
             by_cases c19 : (ji17) < (x5_1.length : Int)
             ·rw [if_pos c19] at H
              have c19b0 : decide ((ji17) < (x5_1.length : Int)) = true := decide_eq_true c19
              clear c19
              by_cases c20 : (ji17) ≤ (x5_1.length : Int)
              ·rw [if_pos c20] at H
               have c20b0 := eq_true c20
               have c20b1 : decide ((ji17) ≤ (x5_1.length : Int)) = true := decide_eq_true c20
               clear c20
               obtain ⟨y208, hy208⟩ : ∃ y_ : List Int, y_ = (x5_1.take ((ji17) : Int).toNat) := ⟨_, rfl⟩
               replace H : (if x16_1 < (x4_1.length : Int) then (if 0 ≤ (rd x5_1 (ji17)) then (if (rd x5_1 (ji17)) < (x4_1.length : Int) then (plait_partners.l0 k1 a0 ((x4_1.set (x16_1 : Int).toNat (rd x5_1 (ji17))).set ((rd x5_1 (ji17)) : Int).toNat x16_1) y208 (a0.size : Int) (wrap64 (x16_1 + 1))) else (none)) else (none)) else (none)) = some (r1, r2) := by first | (rw [hy208]; with_reducible exact H) | (have H2_ := (Option.bind_some _ _).symm.trans H; rw [hy208]; with_reducible exact H2_) | (have H2_ := (Option.bind_some _ _).symm.trans H; with_reducible exact H2_) | with_reducible exact H | (rw [hy208]; exact H) | exact H
               have Ny208 := Aside0.mk hy208
               clear hy208
               by_cases c21 : x16_1 < (x4_1.length : Int)
               ·rw [if_pos c21] at H
                have c21b0 : decide (x16_1 < (x4_1.length : Int)) = true := decide_eq_true c21
                clear c21
                obtain ⟨y211, hy211⟩ : ∃ y_ : List Int, y_ = (x4_1.set (x16_1 : Int).toNat (rd x5_1 (ji17))) := ⟨_, rfl⟩
                replace H : (if 0 ≤ (rd x5_1 (ji17)) then (if (rd x5_1 (ji17)) < (x4_1.length : Int) then (plait_partners.l0 k1 a0 (y211.set ((rd x5_1 (ji17)) : Int).toNat x16_1) y208 (a0.size : Int) (wrap64 (x16_1 + 1))) else (none)) else (none)) = some (r1, r2) := by first | (rw [hy211]; with_reducible exact H) | (have H2_ := (Option.bind_some _ _).symm.trans H; rw [hy211]; with_reducible exact H2_) | (have H2_ := (Option.bind_some _ _).symm.trans H; with_reducible exact H2_) | with_reducible exact H | (rw [hy211]; exact H) | exact H
                have Ny211 := Aside0.mk hy211
                clear hy211
                by_cases c23 : 0 ≤ (rd x5_1 (ji17))
                ·rw [if_pos c23] at H
                 have c23b0 : decide (0 ≤ (rd x5_1 (ji17))) = true := decide_eq_true c23
                 clear c23
                 by_cases c24 : (rd x5_1 (ji17)) < (x4_1.length : Int)
                 ·rw [if_pos c24] at H
                  have c24b0 : decide ((rd x5_1 (ji17)) < (x4_1.length : Int)) = true := decide_eq_true c24
                  clear c24
                  obtain ⟨y212, hy212⟩ : ∃ y_ : List Int, y_ = (y211.set ((rd x5_1 (ji17)) : Int).toNat x16_1) := ⟨_, rfl⟩
                  replace H : (plait_partners.l0 k1 a0 y212 y208 (a0.size : Int) (wrap64 (x16_1 + 1))) = some (r1, r2) := by first | (rw [hy212]; with_reducible exact H) | (have H2_ := (Option.bind_some _ _).symm.trans H; rw [hy212]; with_reducible exact H2_) | (have H2_ := (Option.bind_some _ _).symm.trans H; with_reducible exact H2_) | with_reducible exact H | (rw [hy212]; exact H) | exact H
                  have Ny212 := Aside0.mk hy212
                  clear hy212
                  have H' := Aside0.mk H
                  clear H
                  have p10 : 0 ≤ (x16_1 : Int) := of_decide_eq_true (by first | (with_reducible assumption) | assumption)
                  have q10 : x16_1 < (a0.size : Int) := of_decide_eq_true (by first | (with_reducible assumption) | assumption)
                  have hx10 := bt_at a0 x16_1
                  replace p10 := eq_true p10
                  replace q10 := eq_true q10
                  have p14 : 0 ≤ (x16_1 : Int) := of_decide_eq_true (by first | (with_reducible assumption) | assumption)
                  have q14 : x16_1 < (a0.size : Int) := of_decide_eq_true (by first | (with_reducible assumption) | assumption)
                  have hx14 := bt_at a0 x16_1
                  replace p14 := eq_true p14
                  replace q14 := eq_true q14
                  obtain ⟨Ao26, co26, eo26⟩ := Kd.R_slice HO_5.out
                  subst eo26
                  have p207 : 0 ≤ ((ji17) : Int) := of_decide_eq_true (by first | (with_reducible assumption) | assumption)
                  have q207 : (ji17) < (x5_1.length : Int) := of_decide_eq_true (by first | (with_reducible assumption) | assumption)
                  obtain ⟨ad207, e207, hx207_0⟩ := Kd.at_int (Kd.R_reads' HO_5.out).2.2 (ji17) p207 q207
                  cases e207
                  replace p207 := eq_true p207
                  replace q207 := eq_true q207
                  have q27 : ((ji17) : Int) ≤ ((x5_1.length : Int) : Int) := of_decide_eq_true (by first | (with_reducible assumption) | assumption)
                  obtain ⟨i027, hi027, _, hsz27, _⟩ := info_parts info3
                  have hcut27 := cut_to (P := Try.prog) 22 3 .i64 Try.underlying22 hi027 (some ad207) x5_1.length co26 (ji17) (of_decide_eq_true (by first | (with_reducible assumption) | assumption)) q27 (Kd.R_reads' HO_5.out).2.1
                  have hr27 := Kd.R_take (m := ((ji17) : Int).toNat) HO_5.out (by omega)
                  have hy27 : y208.length = ((ji17) : Int).toNat := (by rw [Ny208.out, List.length_take]; omega)
                  rw [← Ny208.out] at hr27
                  rw [← hy27] at hr27 hcut27
                  clear hy27 hi027 hsz27 HO_5
                  have HO210 := Aside0.mk hr27
                  clear hr27
                  replace q27 := eq_true q27
                  have p22 : 0 ≤ (x16_1 : Int) := of_decide_eq_true (by first | (with_reducible assumption) | assumption)
                  have q22 : (x16_1 : Int) < ((x4_1.length : Int) : Int) := of_decide_eq_true (by first | (with_reducible assumption) | assumption)
                  obtain ⟨go22, co22, eo22, gb22, gl22, cl22, HG22⟩ := Kd.R_form HO_4.out (by omega)
                  (first | cases eo22 | (injection eo22 with ea_ en_ ec_; (first | subst ea_ | (injection ea_ with ea_; subst ea_)); subst ec_; clear en_))
                  have GB22 := Aside0.mk gb22
                  have GG22 := Aside0.mk HG22
                  clear gb22 gl22 HG22
                  obtain ⟨hx22_0, hf22_0⟩ := Kd.R_celln 0 HO_4.out (x16_1 : Int) p22 q22
                  replace p22 := eq_true p22
                  replace q22 := eq_true q22
                  have HP28 := Kd.R_putg HO_4.out (x16_1 : Int) (rd x5_1 (ji17))
                  go_wp2_with (first | ((with_reducible refine gate_store (t := 3) (p := 55) rfl ?_); refine store_event (t := 3) (p := 55) (v := ?vo_w29) (w1 := (wr.setCell ⟨go22, (x16_1 : Int).toNat, none⟩ (.int .i64 (rd x5_1 (ji17))))) ?hg ?ho ?hn ?hr ?_; (case ho => rfl); (case hg => rfl); (case hn => rfl); (case hr => first | (go_simp; done) | (go_simp; rfl)); intro w29 hw; have hg : wr.grownBy w29 (some go22) := (by rw [hw]; exact HP28.2); have hp_ : Kd.R (Kd.int .i64) 3 w29 w.heap.size (fun k_ => some k_ ≠ (.slice (some ad207) y208.length co26 : Value).ownBlock) (.slice (some ⟨go22, 0, none⟩) x4_1.length co22) y211 := (by rw [hw, Ny211.out]; exact HP28.1); clear HP28; have n0_ := Aside0.mk (hp_); have n1_ := Aside0.mk (Kd.R_after (v := (.slice (some ⟨go22, 0, none⟩) x4_1.length co22)) (v1 := (.slice (some ⟨go22, 0, none⟩) x4_1.length co22)) (ok := (fun _ => True)) (by (with_reducible repeat (first | apply Kd.R_alloc | apply Kd.R_drewN | apply Kd.R_drew)); exact Kd.R_mono HO210.out (fun _ hk => ⟨trivial, hk⟩)) hg (.inl rfl)); have n2_ := Aside0.mk ((by rw [hw]; exact below_set (HB.out) GB22.out : Below w.heap.size w w29)); clear HO_4; clear HO210; clear HB; have HO_4 := n0_; have HO210 := n1_; have HB := n2_; clear n0_ n1_ n2_; clear hg hw hp_; have p25 : 0 ≤ ((rd x5_1 (ji17)) : Int) := of_decide_eq_true (by first | (with_reducible assumption) | assumption); have q25 : ((rd x5_1 (ji17)) : Int) < ((x4_1.length : Int) : Int) := of_decide_eq_true (by first | (with_reducible assumption) | assumption); obtain ⟨hx25_0, hf25_0⟩ := Kd.R_celln 0 HO_4.out ((rd x5_1 (ji17)) : Int) p25 q25; replace p25 := eq_true p25; replace q25 := eq_true q25; obtain ⟨hy30_, hz30_⟩ := Kd.R_celln 0 HO_4.out ((rd x5_1 (ji17)) : Int) (of_decide_eq_true (by first | (with_reducible assumption) | assumption)) (of_decide_eq_true (by first | (with_reducible assumption) | assumption)); have HP30 := Kd.R_putg HO_4.out ((rd x5_1 (ji17)) : Int) x16_1) | ((with_reducible refine gate_store (t := 3) (p := 56) rfl ?_); refine store_event (t := 3) (p := 56) (v := ?vo_w31) (w1 := (w29.setCell ⟨go22, ((rd x5_1 (ji17)) : Int).toNat, none⟩ (.int .i64 x16_1))) ?hg ?ho ?hn ?hr ?_; (case ho => rfl); (case hg => rfl); (case hn => rfl); (case hr => first | (go_simp; done) | (go_simp; rfl)); intro w31 hw; have hg : w29.grownBy w31 (some go22) := (by rw [hw]; exact HP30.2); have hp_ : Kd.R (Kd.int .i64) 3 w31 w.heap.size (fun k_ => some k_ ≠ (.slice (some ad207) y208.length co26 : Value).ownBlock) (.slice (some ⟨go22, 0, none⟩) x4_1.length co22) y212 := (by rw [hw, Ny212.out]; exact HP30.1); clear HP30; have n0_ := Aside0.mk (hp_); have n1_ := Aside0.mk (Kd.R_after (v := (.slice (some ⟨go22, 0, none⟩) x4_1.length co22)) (v1 := (.slice (some ⟨go22, 0, none⟩) x4_1.length co22)) (ok := (fun _ => True)) (by (with_reducible repeat (first | apply Kd.R_alloc | apply Kd.R_drewN | apply Kd.R_drew)); exact HO210.out) hg (.inl rfl)); have n2_ := Aside0.mk ((by rw [hw]; exact below_set (HB.out) GB22.out : Below w.heap.size w w31)); clear HO_4; clear HO210; clear HB; have HO_4 := n0_; have HO210 := n1_; have HB := n2_; clear n0_ n1_ n2_; clear hg hw hp_))
                  go_roundg k1
                  case measure => have := HK1.out; omega
                  case rel => exact ⟨(y212), (y208), (wrap64 (x16_1 + 1)), (by first | rfl | (simp; done) | (simp [*]; done)), H', ⟨by have := HK1.out; omega⟩, ⟨by (with_reducible repeat (first | apply Kd.R_alloc | apply Kd.R_drewN | apply Kd.R_drew)); exact HO_4.out⟩, ⟨by (with_reducible repeat (first | apply Kd.R_alloc | apply Kd.R_drewN | apply Kd.R_drew)); exact Kd.R_mono HO210.out (fun _ hk => hk.2)⟩, ⟨by repeat (first | (with_reducible first | exact HB.out | apply below_alloc | apply pw_below_drewN | apply below_drew1) | exact HB.out)⟩⟩
                 ·rw [if_neg c24] at H
                  exact absurd H (by simp)
                ·rw [if_neg c23] at H
                 exact absurd H (by simp)
               ·rw [if_neg c21] at H
                exact absurd H (by simp)
              ·rw [if_neg c20] at H
               exact absurd H (by simp)
             ·rw [if_neg c19] at H
              exact absurd H (by simp)
            ·rw [if_neg c18] at H
             exact absurd H (by simp)
           ·rw [if_neg c16] at H
            have c16b0 : decide (0 < (x5_1.length : Int)) = false := decide_eq_false c16
            have c16b1 : decide (0 < x5_1.length) = false := decide_eq_false (by omega)
            clear c16
            simp only [Option.some.injEq, Prod.mk.injEq] at H
            obtain ⟨rfl, rfl⟩ := H
            have p10 : 0 ≤ (x16_1 : Int) := of_decide_eq_true (by first | (with_reducible assumption) | assumption)
            have q10 : x16_1 < (a0.size : Int) := of_decide_eq_true (by first | (with_reducible assumption) | assumption)
            have hx10 := bt_at a0 x16_1
            replace p10 := eq_true p10
            replace q10 := eq_true q10
            have p14 : 0 ≤ (x16_1 : Int) := of_decide_eq_true (by first | (with_reducible assumption) | assumption)
            have q14 : x16_1 < (a0.size : Int) := of_decide_eq_true (by first | (with_reducible assumption) | assumption)
            have hx14 := bt_at a0 x16_1
            replace p14 := eq_true p14
            replace q14 := eq_true q14
            obtain ⟨Ao32, co32, eo32⟩ := Kd.R_slice HO_5.out
            subst eo32
            go_wp2
            go_ret2
            exact ⟨_, by first | rfl | (simp [errW_none, errW_some] <;> rfl) | (simp [*, errW_none, errW_some] <;> rfl), by first | exact Kd.R_nil _ _ _ _ _ | exact Kd.N_nil _ _ _ _ _ | exact Kd.V_nil _ _ _ _ _ | exact Kd.Q_nil _ _ _ _ _ | exact Kd.S_nil _ _ _ _ _, by repeat (first | (with_reducible first | exact HB.out | apply below_alloc | apply pw_below_drewN | apply below_drew1) | exact HB.out)⟩
          ·rw [if_neg c15] at H
           have c15b0 : ((bt a0 x16_1) == 41) = false := beq_eq_false_iff_ne.mpr c15
           have c15b1 : ((bt a0 x16_1) != 41) = true := bne_iff_ne.mpr c15
           simp only [Option.some.injEq, Prod.mk.injEq] at H
           obtain ⟨rfl, rfl⟩ := H
           have p10 : 0 ≤ (x16_1 : Int) := of_decide_eq_true (by first | (with_reducible assumption) | assumption)
           have q10 : x16_1 < (a0.size : Int) := of_decide_eq_true (by first | (with_reducible assumption) | assumption)
           have hx10 := bt_at a0 x16_1
           replace p10 := eq_true p10
           replace q10 := eq_true q10
           have p14 : 0 ≤ (x16_1 : Int) := of_decide_eq_true (by first | (with_reducible assumption) | assumption)
           have q14 : x16_1 < (a0.size : Int) := of_decide_eq_true (by first | (with_reducible assumption) | assumption)
           have hx14 := bt_at a0 x16_1
           replace p14 := eq_true p14
           replace q14 := eq_true q14
           go_wp2
           go_ret2
           exact ⟨_, by first | rfl | (simp [errW_none, errW_some] <;> rfl) | (simp [*, errW_none, errW_some] <;> rfl), by first | exact Kd.R_nil _ _ _ _ _ | exact Kd.N_nil _ _ _ _ _ | exact Kd.V_nil _ _ _ _ _ | exact Kd.Q_nil _ _ _ _ _ | exact Kd.S_nil _ _ _ _ _, by repeat (first | (with_reducible first | exact HB.out | apply below_alloc | apply pw_below_drewN | apply below_drew1) | exact HB.out)⟩
        ·rw [if_neg c9] at H
         exact absurd H (by simp)
       ·rw [if_neg c8] at H
        exact absurd H (by simp)
      ·rw [if_neg c7] at H
       have c7b0 : decide (x16_1 < (a0.size : Int)) = false := decide_eq_false c7
       clear c7
       by_cases c33 : (x5_1.length : Int) > 0
       ·rw [if_pos c33] at H
        have c33b0 : decide (0 < (x5_1.length : Int)) = true := decide_eq_true c33
        have c33b1 : decide (0 < x5_1.length) = true := decide_eq_true (by omega)
        clear c33
        simp only [Option.some.injEq, Prod.mk.injEq] at H
        obtain ⟨rfl, rfl⟩ := H
        obtain ⟨Ao34, co34, eo34⟩ := Kd.R_slice HO_5.out
        subst eo34
        go_wp2
        go_ret2
        exact ⟨_, by first | rfl | (simp [errW_none, errW_some] <;> rfl) | (simp [*, errW_none, errW_some] <;> rfl), by first | exact Kd.R_nil _ _ _ _ _ | exact Kd.N_nil _ _ _ _ _ | exact Kd.V_nil _ _ _ _ _ | exact Kd.Q_nil _ _ _ _ _ | exact Kd.S_nil _ _ _ _ _, by repeat (first | (with_reducible first | exact HB.out | apply below_alloc | apply pw_below_drewN | apply below_drew1) | exact HB.out)⟩
       ·rw [if_neg c33] at H
        have c33b0 : decide (0 < (x5_1.length : Int)) = false := decide_eq_false c33
        have c33b1 : decide (0 < x5_1.length) = false := decide_eq_false (by omega)
        clear c33
        by_cases c35 : a0.toList = ([] : List UInt8)
        ·rw [if_pos c35] at H
         have c35b0 : (a0.toList == ([] : List UInt8)) = true := beq_iff_eq.mpr c35
         have c35b1 : (a0.toList != ([] : List UInt8)) = false := bne_eq_false_iff_eq.mpr c35
         clear c35
         simp only [Option.some.injEq, Prod.mk.injEq] at H
         obtain ⟨rfl, rfl⟩ := H
         obtain ⟨Ao36, co36, eo36⟩ := Kd.R_slice HO_5.out
         subst eo36
         go_wp2
         go_ret2
         exact ⟨_, by first | rfl | (simp [errW_none, errW_some] <;> rfl) | (simp [*, errW_none, errW_some] <;> rfl), by first | exact Kd.R_nil _ _ _ _ _ | exact Kd.N_nil _ _ _ _ _ | exact Kd.V_nil _ _ _ _ _ | exact Kd.Q_nil _ _ _ _ _ | exact Kd.S_nil _ _ _ _ _, by repeat (first | (with_reducible first | exact HB.out | apply below_alloc | apply pw_below_drewN | apply below_drew1) | exact HB.out)⟩
        ·rw [if_neg c35] at H
         have c35b0 : (a0.toList == ([] : List UInt8)) = false := beq_eq_false_iff_ne.mpr c35
         have c35b1 : (a0.toList != ([] : List UInt8)) = true := bne_iff_ne.mpr c35
         simp only [Option.some.injEq, Prod.mk.injEq] at H
         obtain ⟨rfl, rfl⟩ := H
         obtain ⟨Ao37, co37, eo37⟩ := Kd.R_slice HO_5.out
         subst eo37
         go_wp2
         go_ret2
         exact ⟨_, by first | rfl | (simp [errW_none, errW_some] <;> rfl) | (simp [*, errW_none, errW_some] <;> rfl), by (with_reducible repeat (first | apply Kd.R_alloc | apply Kd.R_drewN | apply Kd.R_drew)); exact Kd.R_mono HO_4.out (fun _ hk => trivial), by repeat (first | (with_reducible first | exact HB.out | apply below_alloc | apply pw_below_drewN | apply below_drew1) | exact HB.out)⟩
   ·rw [if_neg c4] at H
    exact absurd H (by simp)
  ·rw [if_neg c3] at H
   exact absurd H (by simp)
/-! ### plait_roads: function 62 -/
mutual
def plait_roads.l0 : Nat → List Int → List Int → List Bool → Int → Int → Int → Option (Int)
 | 0, _, _, _, _, _, _ => none
 | k + 1, x0, x1, x5, x6, x13, x14 => if x14 < x13 then (if 0 ≤ x14 then (if x14 < (x5.length : Int) then (if rdOf false x5 x14 = true then (plait_roads.l0 k x0 x1 x5 x6 x13 (wrap64 (x14 + 1))) else (plait_roads.l1 k x0 x1 x5 (wrap64 (x6 + 1)) x14 x13 x14)) else (none)) else (none)) else (some x6)
def plait_roads.l1 : Nat → List Int → List Int → List Bool → Int → Int → Int → Int → Option (Int)
 | 0, _, _, _, _, _, _, _ => none
 | k + 1, x0, x1, x5, x6, x8, x13, x14 => if 0 ≤ x8 then (if x8 < (x5.length : Int) then (if rdOf false x5 x8 = true then (plait_roads.l0 k x0 x1 x5 x6 x13 (wrap64 (x14 + 1))) else (if x8 < (x0.length : Int) then (if 0 ≤ (rd x0 x8) then (if (rd x0 x8) < (x5.length : Int) then (if (rd x0 x8) < (x1.length : Int) then (plait_roads.l1 k x0 x1 ((x5.set (x8 : Int).toNat true).set ((rd x0 x8) : Int).toNat true) x6 (rd x1 (rd x0 x8)) x13 x14) else (none)) else (none)) else (none)) else (none))) else (none)) else (none)
end
def plait_roads.f (k : Nat) (l0 : List Int) (l1 : List Int) : Option (Int) := if 0 ≤ (l0.length : Int) then (if ((l0.length : Int) : Int).toNat ≤ 281474976710656 then (plait_roads.l0 k l0 l1 (List.replicate ((l0.length : Int) : Int).toNat false) 0 (l0.length : Int) 0) else (none)) else (none)
theorem plait_roads.mono_l : ∀ k, (∀ y0 y1 y2 y3 y4 y5, LeO (plait_roads.l0 k y0 y1 y2 y3 y4 y5) (plait_roads.l0 (k + 1) y0 y1 y2 y3 y4 y5)) ∧ (∀ y0 y1 y2 y3 y4 y5 y6, LeO (plait_roads.l1 k y0 y1 y2 y3 y4 y5 y6) (plait_roads.l1 (k + 1) y0 y1 y2 y3 y4 y5 y6))
 | 0 => ⟨fun _ _ _ _ _ _ r h => by simp [plait_roads.l0] at h, fun _ _ _ _ _ _ _ r h => by simp [plait_roads.l1] at h⟩
 | k + 1 => by
  obtain ⟨ih0, ih1⟩ := plait_roads.mono_l k
  refine ⟨?_, ?_⟩
  ·intro y0 y1 y2 y3 y4 y5
   unfold plait_roads.l0
   repeat' first
   | (with_reducible exact ih0 _ _ _ _ _ _)
   | (with_reducible exact ih1 _ _ _ _ _ _ _)
   | (with_reducible exact LeO.refl _)
   | (with_reducible exact LeO.none _)
   | (with_reducible refine LeO.ite ?_ ?_)
   | (with_reducible refine LeO.bind ?_ (fun _ => ?_))
   | exact ih0 _ _ _ _ _ _
   | exact ih1 _ _ _ _ _ _ _
   | exact LeO.none _
   | refine LeO.ite ?_ ?_
   | refine LeO.bind ?_ (fun _ => ?_)
  ·intro y0 y1 y2 y3 y4 y5 y6
   unfold plait_roads.l1
   repeat' first
   | (with_reducible exact ih0 _ _ _ _ _ _)
   | (with_reducible exact ih1 _ _ _ _ _ _ _)
   | (with_reducible exact LeO.refl _)
   | (with_reducible exact LeO.none _)
   | (with_reducible refine LeO.ite ?_ ?_)
   | (with_reducible refine LeO.bind ?_ (fun _ => ?_))
   | exact ih0 _ _ _ _ _ _
   | exact ih1 _ _ _ _ _ _ _
   | exact LeO.none _
   | refine LeO.ite ?_ ?_
   | refine LeO.bind ?_ (fun _ => ?_)
theorem plait_roads.mono : ∀ a0 a1 k, LeO (plait_roads.f k a0 a1) (plait_roads.f (k + 1) a0 a1) := by
 intro a0 a1 k
 obtain ⟨ih0, ih1⟩ := plait_roads.mono_l k
 unfold plait_roads.f
 repeat' first
   | (with_reducible exact ih0 _ _ _ _ _ _)
   | (with_reducible exact ih1 _ _ _ _ _ _ _)
   | (with_reducible exact LeO.refl _)
   | (with_reducible exact LeO.none _)
   | (with_reducible refine LeO.ite ?_ ?_)
   | (with_reducible refine LeO.bind ?_ (fun _ => ?_))
   | exact ih0 _ _ _ _ _ _
   | exact ih1 _ _ _ _ _ _ _
   | exact LeO.none _
   | refine LeO.ite ?_ ?_
   | refine LeO.bind ?_ (fun _ => ?_)
set_option maxHeartbeats 8000000 in
set_option maxRecDepth 100000 in
theorem plait_roads.calls (k : Nat) (A0 : Option Addr) (c0 : Nat) (l0 : List Int) (A1 : Option Addr) (c1 : Nat) (l1 : List Int) (r : Int) (w : World) (hr0 : Kd.C (Kd.int .i64) w A0 l0.length l0) (hc0 : l0.length ≤ c0) (hr1 : Kd.C (Kd.int .i64) w A1 l1.length l1) (hc1 : l1.length ≤ c1) (h : plait_roads.f k l0 l1 = some r) :
  Calls Try.prog 62 #[.slice A0 l0.length c0, .slice A1 l1.length c1] w fun e w' => e = .returned (.int .i64 r) ∧ Below w.heap.size w w' := by
 have HR0 := Aside0.mk hr0
 have HC0 := Aside0.mk hc0
 clear hr0 hc0
 have HR1 := Aside0.mk hr1
 have HC1 := Aside0.mk hc1
 clear hr1 hc1
 have HB := Aside0.mk (Below.refl w.heap.size w)
 have H : (if 0 ≤ (l0.length : Int) then (if ((l0.length : Int) : Int).toNat ≤ 281474976710656 then (plait_roads.l0 k l0 l1 (List.replicate ((l0.length : Int) : Int).toNat false) 0 (l0.length : Int) 0) else (none)) else (none)) = some r := h
 clear h
 by_cases c3 : 0 ≤ (l0.length : Int)
 ·rw [if_pos c3] at H
  have c3b0 := eq_true c3
  have c3b1 : decide (0 ≤ (l0.length : Int)) = true := decide_eq_true c3
  clear c3
  by_cases c4 : ((l0.length : Int) : Int).toNat ≤ 281474976710656
  ·rw [if_pos c4] at H
   have c4b0 := eq_true c4
   have c4b1 : decide (((l0.length : Int) : Int).toNat ≤ 281474976710656) = true := decide_eq_true c4
   clear c4
   obtain ⟨y213, hy213⟩ : ∃ y_ : List Bool, y_ = (List.replicate ((l0.length : Int) : Int).toNat false) := ⟨_, rfl⟩
   replace H : (plait_roads.l0 k l0 l1 y213 0 (l0.length : Int) 0) = some r := by first | (rw [hy213]; with_reducible exact H) | (have H2_ := (Option.bind_some _ _).symm.trans H; rw [hy213]; with_reducible exact H2_) | (have H2_ := (Option.bind_some _ _).symm.trans H; with_reducible exact H2_) | with_reducible exact H | (rw [hy213]; exact H) | exact H
   have Ny213 := Aside0.mk hy213
   clear hy213
   have H' := Aside0.mk H
   clear H
   go_enter Try.func62, Try.ntmps62
   go_wp2_with (first | ((with_reducible refine gate_dst (N := 11) rfl ?_); refine Kd.R_make Kd.bool _ 4 rfl (N := 11) rfl 69 _ _ rfl (l0.length : Int) rfl rfl Try.underlying69 (.bool false) 1 info4 rfl (by decide) (by omega) false (ok := fun _ => True) (okp := fun _ => True) rfl (fun _ hk => hk) trivial (of_decide_eq_true (by first | (with_reducible assumption) | assumption)) (Nat.le_trans (Nat.mul_le_mul_right _ (of_decide_eq_true (by first | (with_reducible assumption) | assumption) : (l0.length : Int).toNat ≤ 281474976710656)) (by omega)) (Below.refl _ _) (Nat.le_refl _) ?_; intro v214 w5 ho6 hb hg_ hnew_; clear hg_ hnew_; (first | rw [← Ny213.out] at ho6 | (simp only [Int.reduceToNat] at ho6; rw [← Ny213.out] at ho6)); have n0_ := Aside0.mk (Kd.R_lower ho6 (below_size (by repeat (first | (with_reducible first | exact HB.out | apply below_alloc | apply pw_below_drewN | apply below_drew1) | exact HB.out)))); have n1_ := Aside0.mk (below_step (by repeat (first | (with_reducible first | exact HB.out | apply below_alloc | apply pw_below_drewN | apply below_drew1) | exact HB.out)) hb); clear HB; have HO215 := n0_; have HB := n1_; clear n0_ n1_; clear hb ho6))
   go_loopg [6, 14] k (fun kq v6 v14 w' => ∃ (x5_1 : List Bool) (x6_1 : Int) (x14_1 : Int), v6 = .int .i64 x6_1 ∧ v14 = .int .i64 x14_1 ∧ Aside0 (plait_roads.l0 kq l0 l1 x5_1 x6_1 (l0.length : Int) x14_1 = some r) ∧ Aside0 (kq ≤ k) ∧ Aside0 (Kd.R Kd.bool 4 w' w.heap.size (fun _ => True) v214 x5_1) ∧ Aside0 (Below w.heap.size w w'))
   case atStart => exact ⟨(y213), (0), (0), (by first | rfl | (simp; done) | (simp [*]; done)), (by first | rfl | (simp; done) | (simp [*]; done)), H', ⟨Nat.le_refl _⟩, ⟨by (with_reducible repeat (first | apply Kd.R_alloc | apply Kd.R_drewN | apply Kd.R_drew)); exact HO215.out⟩, ⟨by repeat (first | (with_reducible first | exact HB.out | apply below_alloc | apply pw_below_drewN | apply below_drew1) | exact HB.out)⟩⟩
   case round =>
    clear H'
    try clear c1
    try clear p2
    try clear c3
    try clear c3b0
    try clear c3b1
    try clear c4
    try clear c4b0
    try clear c4b1
    try clear c6
    obtain ⟨x5_1, x6_1, x14_1, rfl, rfl, HA, HK1, HO_5, HB⟩ := hrel
    cases gk with
    | zero => exact absurd HA.out (by simp [plait_roads.l0])
    | succ k1 =>
     have H := HA.out
     clear HA
     simp only [plait_roads.l0] at H
     by_cases c7 : x14_1 < (l0.length : Int)
     ·rw [if_pos c7] at H
      have c7b0 : decide (x14_1 < (l0.length : Int)) = true := decide_eq_true c7
      clear c7
      by_cases c8 : 0 ≤ x14_1
      ·rw [if_pos c8] at H
       have c8b0 : decide (0 ≤ x14_1) = true := decide_eq_true c8
       clear c8
       by_cases c9 : x14_1 < (x5_1.length : Int)
       ·rw [if_pos c9] at H
        have c9b0 : decide (x14_1 < (x5_1.length : Int)) = true := decide_eq_true c9
        clear c9
        obtain ⟨bq10, hbq10⟩ : ∃ b_ : Bool, b_ = (rdOf false x5_1 x14_1) := ⟨_, rfl⟩
        replace H : (if bq10 = true then (plait_roads.l0 k1 l0 l1 x5_1 x6_1 (l0.length : Int) (wrap64 (x14_1 + 1))) else (plait_roads.l1 k1 l0 l1 x5_1 (wrap64 (x6_1 + 1)) x14_1 (l0.length : Int) x14_1)) = some r := by rw [← hbq10] at H; exact H
        have Nbq10 := Aside0.mk hbq10
        clear hbq10
        by_cases c11 : bq10 = true
        ·subst c11
         have H1 : (plait_roads.l0 k1 l0 l1 x5_1 x6_1 (l0.length : Int) (wrap64 (x14_1 + 1))) = some r := by rw [if_pos rfl] at H; exact H
         clear H
         have H := H1
         clear H1
         have H' := Aside0.mk H
         clear H
         obtain ⟨Ao12, co12, eo12⟩ := Kd.R_slice HO_5.out
         subst eo12
         have p216 : 0 ≤ (x14_1 : Int) := of_decide_eq_true (by first | (with_reducible assumption) | assumption)
         have q216 : x14_1 < (x5_1.length : Int) := of_decide_eq_true (by first | (with_reducible assumption) | assumption)
         obtain ⟨ad216, e216, hx216_0⟩ := Kd.at_bool (Kd.R_reads' HO_5.out).2.2 x14_1 p216 q216
         (try rw [← Nbq10.out] at hx216_0)
         cases e216
         replace p216 := eq_true p216
         replace q216 := eq_true q216
         go_wp2
         go_roundg k1
         case measure => have := HK1.out; omega
         case rel => exact ⟨(x5_1), (x6_1), (wrap64 (x14_1 + 1)), (by first | rfl | (simp; done) | (simp [*]; done)), (by first | rfl | (simp; done) | (simp [*]; done)), H', ⟨by have := HK1.out; omega⟩, ⟨by (with_reducible repeat (first | apply Kd.R_alloc | apply Kd.R_drewN | apply Kd.R_drew)); exact HO_5.out⟩, ⟨by repeat (first | (with_reducible first | exact HB.out | apply below_alloc | apply pw_below_drewN | apply below_drew1) | exact HB.out)⟩⟩
        ·replace c11 := Bool.eq_false_iff.mpr c11
         subst c11
         have H1 : (plait_roads.l1 k1 l0 l1 x5_1 (wrap64 (x6_1 + 1)) x14_1 (l0.length : Int) x14_1) = some r := by rw [if_neg (show ¬ (false = true) by decide)] at H; exact H
         clear H
         have H := H1
         clear H1
         have H' := Aside0.mk H
         clear H
         obtain ⟨Ao13, co13, eo13⟩ := Kd.R_slice HO_5.out
         subst eo13
         have p216 : 0 ≤ (x14_1 : Int) := of_decide_eq_true (by first | (with_reducible assumption) | assumption)
         have q216 : x14_1 < (x5_1.length : Int) := of_decide_eq_true (by first | (with_reducible assumption) | assumption)
         obtain ⟨ad216, e216, hx216_0⟩ := Kd.at_bool (Kd.R_reads' HO_5.out).2.2 x14_1 p216 q216
         (try rw [← Nbq10.out] at hx216_0)
         cases e216
         replace p216 := eq_true p216
         replace q216 := eq_true q216
         go_wp2
         go_loopg [8] k1 (fun kq v8 w' => ∃ (x5_2 : List Bool) (x8_2 : Int), v8 = .int .i64 x8_2 ∧ Aside0 (plait_roads.l1 kq l0 l1 x5_2 (wrap64 (x6_1 + 1)) x8_2 (l0.length : Int) x14_1 = some r) ∧ Aside0 (kq ≤ k1) ∧ Aside0 (Kd.R Kd.bool 4 w' w.heap.size (fun _ => True) (.slice (some ad216) x5_1.length co13) x5_2) ∧ Aside0 (Below w.heap.size w w'))
         case atStart => exact ⟨(x5_1), (x14_1), (by first | rfl | (simp; done) | (simp [*]; done)), H', ⟨Nat.le_refl _⟩, ⟨by (with_reducible repeat (first | apply Kd.R_alloc | apply Kd.R_drewN | apply Kd.R_drew)); exact HO_5.out⟩, ⟨by repeat (first | (with_reducible first | exact HB.out | apply below_alloc | apply pw_below_drewN | apply below_drew1) | exact HB.out)⟩⟩
         case round =>
          clear H'
          try clear c1
          try clear q1
          try clear p2
          try clear q2
          try clear hx2
          try clear c3
          try clear c3b0
          try clear c3b1
          try clear c4
          try clear c4b0
          try clear c4b1
          try clear c6
          try clear p6
          try clear c7
          try clear c7b0
          try clear c8
          try clear c8b0
          try clear c9
          try clear c9b0
          try clear q10
          try clear c11
          try clear hx216_0
          try clear p2
          try clear p216
          try clear q216
          obtain ⟨x5_2, x8_2, rfl, HA, HK2, HO_5, HB⟩ := hrel
          have hl5_2 := (Kd.R_reads' HO_5.out).1
          rw [hl5_2] at HO_5
          (try simp only [hl5_2])
          cases gk with
          | zero => exact absurd HA.out (by simp [plait_roads.l1])
          | succ k2 =>
           have H := HA.out
           clear HA
           simp only [plait_roads.l1] at H
           by_cases c14 : 0 ≤ x8_2
           ·rw [if_pos c14] at H
            have c14b0 : decide (0 ≤ x8_2) = true := decide_eq_true c14
            clear c14
            by_cases c15 : x8_2 < (x5_2.length : Int)
            ·rw [if_pos c15] at H
             have c15b0 : decide (x8_2 < (x5_2.length : Int)) = true := decide_eq_true c15
             clear c15
             obtain ⟨bq16, hbq16⟩ : ∃ b_ : Bool, b_ = (rdOf false x5_2 x8_2) := ⟨_, rfl⟩
             replace H : (if bq16 = true then (plait_roads.l0 k2 l0 l1 x5_2 (wrap64 (x6_1 + 1)) (l0.length : Int) (wrap64 (x14_1 + 1))) else (if x8_2 < (l0.length : Int) then (if 0 ≤ (rd l0 x8_2) then (if (rd l0 x8_2) < (x5_2.length : Int) then (if (rd l0 x8_2) < (l1.length : Int) then (plait_roads.l1 k2 l0 l1 ((x5_2.set (x8_2 : Int).toNat true).set ((rd l0 x8_2) : Int).toNat true) (wrap64 (x6_1 + 1)) (rd l1 (rd l0 x8_2)) (l0.length : Int) x14_1) else (none)) else (none)) else (none)) else (none))) = some r := by rw [← hbq16] at H; exact H
             have Nbq16 := Aside0.mk hbq16
             clear hbq16
             by_cases c17 : bq16 = true
             ·subst c17
              have H1 : (plait_roads.l0 k2 l0 l1 x5_2 (wrap64 (x6_1 + 1)) (l0.length : Int) (wrap64 (x14_1 + 1))) = some r := by rw [if_pos rfl] at H; exact H
              clear H
              have H := H1
              clear H1
              have H' := Aside0.mk H
              clear H
              have p217 : 0 ≤ (x8_2 : Int) := of_decide_eq_true (by first | (with_reducible assumption) | assumption)
              have q217 : x8_2 < (x5_2.length : Int) := of_decide_eq_true (by first | (with_reducible assumption) | assumption)
              obtain ⟨ad217, e217, hx217_0⟩ := Kd.at_bool (Kd.R_reads' HO_5.out).2.2 x8_2 p217 q217
              (try rw [← Nbq10.out] at hx217_0)
              (try rw [← Nbq16.out] at hx217_0)
              obtain rfl : ad216 = ad217 := (by injection e217)
              replace p217 := eq_true p217
              replace q217 := eq_true q217
              go_wp2
              (try simp only [← hl5_2])
              go_roundg k2
              case measure => have := HK1.out; have := HK2.out; omega
              case rel => exact ⟨(x5_2), ((wrap64 (x6_1 + 1))), (wrap64 (x14_1 + 1)), (by first | rfl | (simp; done) | (simp [*]; done)), (by first | rfl | (simp; done) | (simp [*]; done)), H', ⟨by have := HK1.out; have := HK2.out; omega⟩, ⟨by (try simp only [hl5_2]); (with_reducible repeat (first | apply Kd.R_alloc | apply Kd.R_drewN | apply Kd.R_drew)); exact HO_5.out⟩, ⟨by repeat (first | (with_reducible first | exact HB.out | apply below_alloc | apply pw_below_drewN | apply below_drew1) | exact HB.out)⟩⟩
             ·replace c17 := Bool.eq_false_iff.mpr c17
              subst c17
              have H1 : (if x8_2 < (l0.length : Int) then (if 0 ≤ (rd l0 x8_2) then (if (rd l0 x8_2) < (x5_2.length : Int) then (if (rd l0 x8_2) < (l1.length : Int) then (plait_roads.l1 k2 l0 l1 ((x5_2.set (x8_2 : Int).toNat true).set ((rd l0 x8_2) : Int).toNat true) (wrap64 (x6_1 + 1)) (rd l1 (rd l0 x8_2)) (l0.length : Int) x14_1) else (none)) else (none)) else (none)) else (none)) = some r := by rw [if_neg (show ¬ (false = true) by decide)] at H; exact H
              clear H
              have H := H1
              clear H1
              by_cases c18 : x8_2 < (l0.length : Int)
              ·rw [if_pos c18] at H
               have c18b0 : decide (x8_2 < (l0.length : Int)) = true := decide_eq_true c18
               clear c18
               obtain ⟨y219, hy219⟩ : ∃ y_ : List Bool, y_ = (x5_2.set (x8_2 : Int).toNat true) := ⟨_, rfl⟩
               replace H : (if 0 ≤ (rd l0 x8_2) then (if (rd l0 x8_2) < (x5_2.length : Int) then (if (rd l0 x8_2) < (l1.length : Int) then (plait_roads.l1 k2 l0 l1 (y219.set ((rd l0 x8_2) : Int).toNat true) (wrap64 (x6_1 + 1)) (rd l1 (rd l0 x8_2)) (l0.length : Int) x14_1) else (none)) else (none)) else (none)) = some r := by first | (rw [hy219]; with_reducible exact H) | (have H2_ := (Option.bind_some _ _).symm.trans H; rw [hy219]; with_reducible exact H2_) | (have H2_ := (Option.bind_some _ _).symm.trans H; with_reducible exact H2_) | with_reducible exact H | (rw [hy219]; exact H) | exact H
               have Ny219 := Aside0.mk hy219
               clear hy219
               by_cases c20 : 0 ≤ (rd l0 x8_2)
               ·rw [if_pos c20] at H
                have c20b0 : decide (0 ≤ (rd l0 x8_2)) = true := decide_eq_true c20
                clear c20
                by_cases c21 : (rd l0 x8_2) < (x5_2.length : Int)
                ·rw [if_pos c21] at H
                 have c21b0 : decide ((rd l0 x8_2) < (x5_2.length : Int)) = true := decide_eq_true c21
                 clear c21
                 obtain ⟨y220, hy220⟩ : ∃ y_ : List Bool, y_ = (y219.set ((rd l0 x8_2) : Int).toNat true) := ⟨_, rfl⟩
                 replace H : (if (rd l0 x8_2) < (l1.length : Int) then (plait_roads.l1 k2 l0 l1 y220 (wrap64 (x6_1 + 1)) (rd l1 (rd l0 x8_2)) (l0.length : Int) x14_1) else (none)) = some r := by first | (rw [hy220]; with_reducible exact H) | (have H2_ := (Option.bind_some _ _).symm.trans H; rw [hy220]; with_reducible exact H2_) | (have H2_ := (Option.bind_some _ _).symm.trans H; with_reducible exact H2_) | with_reducible exact H | (rw [hy220]; exact H) | exact H
                 have Ny220 := Aside0.mk hy220
                 clear hy220
                 by_cases c23 : (rd l0 x8_2) < (l1.length : Int)
                 ·rw [if_pos c23] at H
                  have c23b0 : decide ((rd l0 x8_2) < (l1.length : Int)) = true := decide_eq_true c23
                  clear c23
                  have H' := Aside0.mk H
                  clear H
                  have p217 : 0 ≤ (x8_2 : Int) := of_decide_eq_true (by first | (with_reducible assumption) | assumption)
                  have q217 : x8_2 < (x5_2.length : Int) := of_decide_eq_true (by first | (with_reducible assumption) | assumption)
                  obtain ⟨ad217, e217, hx217_0⟩ := Kd.at_bool (Kd.R_reads' HO_5.out).2.2 x8_2 p217 q217
                  (try rw [← Nbq10.out] at hx217_0)
                  (try rw [← Nbq16.out] at hx217_0)
                  obtain rfl : ad216 = ad217 := (by injection e217)
                  replace p217 := eq_true p217
                  replace q217 := eq_true q217
                  have p218 : 0 ≤ (x8_2 : Int) := of_decide_eq_true (by first | (with_reducible assumption) | assumption)
                  have q218 : x8_2 < (l0.length : Int) := of_decide_eq_true (by first | (with_reducible assumption) | assumption)
                  obtain ⟨ad218, e218, hx218_0⟩ := Kd.at_int HR0.out x8_2 p218 q218
                  cases e218
                  replace hx218_0 := (HB.out.cell (World.block_lt_of_cell? w _ hx218_0)).trans hx218_0
                  replace p218 := eq_true p218
                  replace q218 := eq_true q218
                  have p19 : 0 ≤ (x8_2 : Int) := of_decide_eq_true (by first | (with_reducible assumption) | assumption)
                  have q19 : (x8_2 : Int) < ((x5_2.length : Int) : Int) := of_decide_eq_true (by first | (with_reducible assumption) | assumption)
                  obtain ⟨go19, co19, eo19, gb19, gl19, cl19, HG19⟩ := Kd.R_form HO_5.out (by omega)
                  (first | cases eo19 | (injection eo19 with ea_ en_ ec_; (first | subst ea_ | (injection ea_ with ea_; subst ea_)); subst ec_; clear en_))
                  (try simp only [add_plain] at *)
                  have GB19 := Aside0.mk gb19
                  have GG19 := Aside0.mk HG19
                  clear gb19 gl19 HG19
                  (first | simp only [add_plain] at hx216_0 | skip)
                  (first | simp only [add_plain] at hx217_0 | skip)
                  obtain ⟨hx19_0, hf19_0⟩ := Kd.R_celln false HO_5.out (x8_2 : Int) p19 q19
                  replace p19 := eq_true p19
                  replace q19 := eq_true q19
                  have HP24 := Kd.R_putg HO_5.out (x8_2 : Int) true
                  go_wp2_with (first | ((with_reducible refine gate_store (t := 4) (p := 43) rfl ?_); refine store_event (t := 4) (p := 43) (v := ?vo_w25) (w1 := (wr.setCell ⟨go19, (x8_2 : Int).toNat, none⟩ (.bool true))) ?hg ?ho ?hn ?hr ?_; (case ho => rfl); (case hg => rfl); (case hn => rfl); (case hr => first | (go_simp; done) | (go_simp; rfl)); intro w25 hw; have hg : wr.grownBy w25 (some go19) := (by rw [hw]; exact HP24.2); have hp_ : Kd.R Kd.bool 4 w25 w.heap.size (fun _ => True) (.slice (some ⟨go19, 0, none⟩) x5_2.length co13) y219 := (by rw [hw, Ny219.out]; exact HP24.1); clear HP24; have n0_ := Aside0.mk (hp_); have n1_ := Aside0.mk ((by rw [hw]; exact below_set (HB.out) GB19.out : Below w.heap.size w w25)); clear HO_5; clear HB; have HO_5 := n0_; have HB := n1_; clear n0_ n1_; clear hg hw hp_; have p22 : 0 ≤ ((rd l0 x8_2) : Int) := of_decide_eq_true (by first | (with_reducible assumption) | assumption); have q22 : ((rd l0 x8_2) : Int) < ((x5_2.length : Int) : Int) := of_decide_eq_true (by first | (with_reducible assumption) | assumption); obtain ⟨hx22_0, hf22_0⟩ := Kd.R_celln false HO_5.out ((rd l0 x8_2) : Int) p22 q22; replace p22 := eq_true p22; replace q22 := eq_true q22; obtain ⟨hy26_, hz26_⟩ := Kd.R_celln false HO_5.out ((rd l0 x8_2) : Int) (of_decide_eq_true (by first | (with_reducible assumption) | assumption)) (of_decide_eq_true (by first | (with_reducible assumption) | assumption)); have HP26 := Kd.R_putg HO_5.out ((rd l0 x8_2) : Int) true) | ((with_reducible refine gate_store (t := 4) (p := 44) rfl ?_); refine store_event (t := 4) (p := 44) (v := ?vo_w27) (w1 := (w25.setCell ⟨go19, ((rd l0 x8_2) : Int).toNat, none⟩ (.bool true))) ?hg ?ho ?hn ?hr ?_; (case ho => rfl); (case hg => rfl); (case hn => rfl); (case hr => first | (go_simp; done) | (go_simp; rfl)); intro w27 hw; have hg : w25.grownBy w27 (some go19) := (by rw [hw]; exact HP26.2); have hp_ : Kd.R Kd.bool 4 w27 w.heap.size (fun _ => True) (.slice (some ⟨go19, 0, none⟩) x5_2.length co13) y220 := (by rw [hw, Ny220.out]; exact HP26.1); clear HP26; have n0_ := Aside0.mk (hp_); have n1_ := Aside0.mk ((by rw [hw]; exact below_set (HB.out) GB19.out : Below w.heap.size w w27)); clear HO_5; clear HB; have HO_5 := n0_; have HB := n1_; clear n0_ n1_; clear hg hw hp_; have p221 : 0 ≤ (x8_2 : Int) := of_decide_eq_true (by first | (with_reducible assumption) | assumption); have q221 : x8_2 < (l0.length : Int) := of_decide_eq_true (by first | (with_reducible assumption) | assumption); obtain ⟨ad221, e221, hx221_0⟩ := Kd.at_int HR0.out x8_2 p221 q221; obtain rfl : ad218 = ad221 := (by injection e221); replace hx221_0 := (HB.out.cell (World.block_lt_of_cell? w _ hx221_0)).trans hx221_0; replace p221 := eq_true p221; replace q221 := eq_true q221; have p222 : 0 ≤ ((rd l0 x8_2) : Int) := of_decide_eq_true (by first | (with_reducible assumption) | assumption); have q222 : (rd l0 x8_2) < (l1.length : Int) := of_decide_eq_true (by first | (with_reducible assumption) | assumption); obtain ⟨ad222, e222, hx222_0⟩ := Kd.at_int HR1.out (rd l0 x8_2) p222 q222; cases e222; replace hx222_0 := (HB.out.cell (World.block_lt_of_cell? w _ hx222_0)).trans hx222_0; replace p222 := eq_true p222; replace q222 := eq_true q222))
                  (try simp only [← hl5_2])
                  go_roundg k2
                  case measure => have := HK1.out; have := HK2.out; omega
                  case rel => exact ⟨(y220), (rd l1 (rd l0 x8_2)), (by first | rfl | (simp; done) | (simp [*]; done)), H', ⟨by have := HK1.out; have := HK2.out; omega⟩, ⟨by (try simp only [hl5_2]); (with_reducible repeat (first | apply Kd.R_alloc | apply Kd.R_drewN | apply Kd.R_drew)); exact HO_5.out⟩, ⟨by repeat (first | (with_reducible first | exact HB.out | apply below_alloc | apply pw_below_drewN | apply below_drew1) | exact HB.out)⟩⟩
                 ·rw [if_neg c23] at H
                  exact absurd H (by simp)
                ·rw [if_neg c21] at H
                 exact absurd H (by simp)
               ·rw [if_neg c20] at H
                exact absurd H (by simp)
              ·rw [if_neg c18] at H
               exact absurd H (by simp)
            ·rw [if_neg c15] at H
             exact absurd H (by simp)
           ·rw [if_neg c14] at H
            exact absurd H (by simp)
       ·rw [if_neg c9] at H
        exact absurd H (by simp)
      ·rw [if_neg c8] at H
       exact absurd H (by simp)
     ·rw [if_neg c7] at H
      have c7b0 : decide (x14_1 < (l0.length : Int)) = false := decide_eq_false c7
      clear c7
      obtain rfl := Option.some.inj H
      go_wp2
      go_ret
      exact ⟨by first | rfl | (simp [errW_none, errW_some] <;> rfl) | (simp [*, errW_none, errW_some] <;> rfl), by repeat (first | (with_reducible first | exact HB.out | apply below_alloc | apply pw_below_drewN | apply below_drew1) | exact HB.out)⟩
  ·rw [if_neg c4] at H
   exact absurd H (by simp)
 ·rw [if_neg c3] at H
  exact absurd H (by simp)
/-! ### plait_diagram_down: function 67 -/
def plait_diagram_down.f (l0 : List Int) (a1 : Int) : Option (Int) := (plait_diagram_size.f l0).bind fun t242 => (if (l0.length : Int) = 0 then (none) else (some (Int.tmod (wrap64 (a1 + t242)) (l0.length : Int))))
set_option maxHeartbeats 8000000 in
set_option maxRecDepth 100000 in
theorem plait_diagram_down.calls (A0 : Option Addr) (c0 : Nat) (l0 : List Int) (a1 : Int) (r : Int) (w : World) (hr0 : Kd.C (Kd.int .i64) w A0 l0.length l0) (hc0 : l0.length ≤ c0) (h : plait_diagram_down.f l0 a1 = some r) :
  Calls Try.prog 67 #[.slice A0 l0.length c0, .int .i64 a1] w fun e w' => e = .returned (.int .i64 r) ∧ Drawn0 w w' := by
 have HR0 := Aside0.mk hr0
 have HC0 := Aside0.mk hc0
 clear hr0 hc0
 have H : ((plait_diagram_size.f l0).bind fun t242 => (if (l0.length : Int) = 0 then (none) else (some (Int.tmod (wrap64 (a1 + t242)) (l0.length : Int))))) = some r := h
 clear h
 replace H := Option.bind_eq_some_iff.mp H
 obtain ⟨t242, A30, H⟩ := H
 replace H : (if (l0.length : Int) = 0 then (none) else (some (Int.tmod (wrap64 (a1 + t242)) (l0.length : Int)))) = some r := H
 have A3 := Aside0.mk A30
 clear A30
 by_cases c4 : (l0.length : Int) = 0
 ·rw [if_pos c4] at H
  exact absurd H (by simp)
 ·rw [if_neg c4] at H
  have c4b0 : ((l0.length : Int) == 0) = false := beq_eq_false_iff_ne.mpr c4
  have c4b1 : ((l0.length : Int) != 0) = true := bne_iff_ne.mpr c4
  have c4b2 : ¬ (l0 = []) := fun h_ => c4 (by rw [h_]; rfl)
  obtain rfl := Option.some.inj H
  go_enter Try.func67, Try.ntmps67
  go_wp2_with (first | ((with_reducible refine gate_callee (f := 72) rfl ?_); refine goesL_ (some 7) rfl rfl Try.func72 (by kernel_rfl) rfl #[.slice A0 l0.length c0] rfl (by (try simp only [List.map_toArray, List.map_cons, List.map_nil]); first | done | rfl | (simp only [List.length_drop, List.length_take]; rfl)) ?_; (with_reducible refine (plait_diagram_size.calls _ _ l0 t242 _ ?side1 ?side2 A3.out).mono ?_); (case side1 => repeat (first | exact HR0.out | (with_reducible refine Kd.C_alloc ?_ _) | (with_reducible refine Kd.C_drewN ?_ _) | (with_reducible refine Kd.C_drew ?_))); (case side2 => exact HC0.out); rintro e w' ⟨rfl, ⟨nd, rfl⟩⟩; refine ⟨_, rfl, ?_⟩))
  go_ret
  exact ⟨by first | rfl | (simp; done) | (simp [*]; done), by repeat (first | exact Drawn0.refl _ | apply Drawn0.step)⟩
/-! ### plait_Closed: function 29 -/
attribute [local go_sem] plait_of.val0
mutual
def plait_Closed.l0 : Nat → List Int → List Bool → Int → Int → Int → Option (Int × Int)
 | 0, _, _, _, _, _ => none
 | k + 1, x4, x6, x7, x22, x23 => if x23 < x22 then (if 0 ≤ x23 then (if x23 < (x6.length : Int) then (if rdOf false x6 x23 = true then (plait_Closed.l0 k x4 x6 x7 x22 (wrap64 (x23 + 1))) else (plait_Closed.l1 k x4 x6 (wrap64 (x7 + 1)) x23 x22 x23)) else (none)) else (none)) else (some (x7, 0))
def plait_Closed.l1 : Nat → List Int → List Bool → Int → Int → Int → Int → Option (Int × Int)
 | 0, _, _, _, _, _, _ => none
 | k + 1, x4, x6, x7, x9, x22, x23 => if 0 ≤ x9 then (if x9 < (x6.length : Int) then (if rdOf false x6 x9 = true then (plait_Closed.l0 k x4 x6 x7 x22 (wrap64 (x23 + 1))) else (if x9 < (x4.length : Int) then (if 0 ≤ (rd x4 x9) then (if (rd x4 x9) < (x6.length : Int) then ((plait_diagram_down.f x4 (rd x4 x9)).bind fun t253 => (plait_Closed.l1 k x4 ((x6.set (x9 : Int).toNat true).set ((rd x4 x9) : Int).toNat true) x7 t253 x22 x23)) else (none)) else (none)) else (none))) else (none)) else (none)
end
def plait_Closed.f (k : Nat) (l0 : List Int) : Option (Int × Int) := (plait_of.f k l0).bind fun t243 => (if t243 = 0 then (if 0 ≤ (l0.length : Int) then (if ((l0.length : Int) : Int).toNat ≤ 281474976710656 then (plait_Closed.l0 k l0 (List.replicate ((l0.length : Int) : Int).toNat false) 0 (l0.length : Int) 0) else (none)) else (none)) else (some (0, t243)))
theorem plait_Closed.mono_l : ∀ k, (∀ y0 y1 y2 y3 y4, LeO (plait_Closed.l0 k y0 y1 y2 y3 y4) (plait_Closed.l0 (k + 1) y0 y1 y2 y3 y4)) ∧ (∀ y0 y1 y2 y3 y4 y5, LeO (plait_Closed.l1 k y0 y1 y2 y3 y4 y5) (plait_Closed.l1 (k + 1) y0 y1 y2 y3 y4 y5))
 | 0 => ⟨fun _ _ _ _ _ r h => by simp [plait_Closed.l0] at h, fun _ _ _ _ _ _ r h => by simp [plait_Closed.l1] at h⟩
 | k + 1 => by
  obtain ⟨ih0, ih1⟩ := plait_Closed.mono_l k
  refine ⟨?_, ?_⟩
  ·intro y0 y1 y2 y3 y4
   unfold plait_Closed.l0
   repeat' first
   | (with_reducible exact ih0 _ _ _ _ _)
   | (with_reducible exact ih1 _ _ _ _ _ _)
   | (with_reducible exact plait_of.mono _ _)
   | (with_reducible exact LeO.refl _)
   | (with_reducible exact LeO.none _)
   | (with_reducible refine LeO.ite ?_ ?_)
   | (with_reducible refine LeO.bind ?_ (fun _ => ?_))
   | exact ih0 _ _ _ _ _
   | exact ih1 _ _ _ _ _ _
   | exact plait_of.mono _ _
   | exact LeO.none _
   | refine LeO.ite ?_ ?_
   | refine LeO.bind ?_ (fun _ => ?_)
  ·intro y0 y1 y2 y3 y4 y5
   unfold plait_Closed.l1
   repeat' first
   | (with_reducible exact ih0 _ _ _ _ _)
   | (with_reducible exact ih1 _ _ _ _ _ _)
   | (with_reducible exact plait_of.mono _ _)
   | (with_reducible exact LeO.refl _)
   | (with_reducible exact LeO.none _)
   | (with_reducible refine LeO.ite ?_ ?_)
   | (with_reducible refine LeO.bind ?_ (fun _ => ?_))
   | exact ih0 _ _ _ _ _
   | exact ih1 _ _ _ _ _ _
   | exact plait_of.mono _ _
   | exact LeO.none _
   | refine LeO.ite ?_ ?_
   | refine LeO.bind ?_ (fun _ => ?_)
theorem plait_Closed.mono : ∀ a0 k, LeO (plait_Closed.f k a0) (plait_Closed.f (k + 1) a0) := by
 intro a0 k
 obtain ⟨ih0, ih1⟩ := plait_Closed.mono_l k
 unfold plait_Closed.f
 repeat' first
   | (with_reducible exact ih0 _ _ _ _ _)
   | (with_reducible exact ih1 _ _ _ _ _ _)
   | (with_reducible exact plait_of.mono _ _)
   | (with_reducible exact LeO.refl _)
   | (with_reducible exact LeO.none _)
   | (with_reducible refine LeO.ite ?_ ?_)
   | (with_reducible refine LeO.bind ?_ (fun _ => ?_))
   | exact ih0 _ _ _ _ _
   | exact ih1 _ _ _ _ _ _
   | exact plait_of.mono _ _
   | exact LeO.none _
   | refine LeO.ite ?_ ?_
   | refine LeO.bind ?_ (fun _ => ?_)
set_option maxHeartbeats 8000000 in
set_option maxRecDepth 100000 in
theorem plait_Closed.calls (k : Nat) (A0 : Option Addr) (c0 : Nat) (l0 : List Int) (r1 : Int) (r2 : Int) (w : World) (hr0 : Kd.C (Kd.int .i64) w A0 l0.length l0) (hc0 : l0.length ≤ c0) (h : plait_Closed.f k l0 = some (r1, r2)) :
  Calls Try.prog 29 #[.slice A0 l0.length c0] w fun e w' => e = .returned (.tuple #[.int .i64 r1, .int .i64 r2]) ∧ Below w.heap.size w w' := by
 have HR0 := Aside0.mk hr0
 have HC0 := Aside0.mk hc0
 clear hr0 hc0
 have HB := Aside0.mk (Below.refl w.heap.size w)
 have H : ((plait_of.f k l0).bind fun t243 => (if t243 = 0 then (if 0 ≤ (l0.length : Int) then (if ((l0.length : Int) : Int).toNat ≤ 281474976710656 then (plait_Closed.l0 k l0 (List.replicate ((l0.length : Int) : Int).toNat false) 0 (l0.length : Int) 0) else (none)) else (none)) else (some (0, t243)))) = some (r1, r2) := h
 clear h
 replace H := Option.bind_eq_some_iff.mp H
 obtain ⟨t243, A20, H⟩ := H
 replace H : (if t243 = 0 then (if 0 ≤ (l0.length : Int) then (if ((l0.length : Int) : Int).toNat ≤ 281474976710656 then (plait_Closed.l0 k l0 (List.replicate ((l0.length : Int) : Int).toNat false) 0 (l0.length : Int) 0) else (none)) else (none)) else (some (0, t243))) = some (r1, r2) := H
 have A2 := Aside0.mk A20
 clear A20
 by_cases c3 : t243 = 0
 ·rw [if_pos c3] at H
  have c3b0 : (t243 == 0) = true := beq_iff_eq.mpr c3
  have c3b1 : (t243 != 0) = false := bne_eq_false_iff_eq.mpr c3
  clear c3
  by_cases c4 : 0 ≤ (l0.length : Int)
  ·rw [if_pos c4] at H
   have c4b0 := eq_true c4
   have c4b1 : decide (0 ≤ (l0.length : Int)) = true := decide_eq_true c4
   clear c4
   by_cases c5 : ((l0.length : Int) : Int).toNat ≤ 281474976710656
   ·rw [if_pos c5] at H
    have c5b0 := eq_true c5
    have c5b1 : decide (((l0.length : Int) : Int).toNat ≤ 281474976710656) = true := decide_eq_true c5
    clear c5
    obtain ⟨y244, hy244⟩ : ∃ y_ : List Bool, y_ = (List.replicate ((l0.length : Int) : Int).toNat false) := ⟨_, rfl⟩
    replace H : (plait_Closed.l0 k l0 y244 0 (l0.length : Int) 0) = some (r1, r2) := by first | (rw [hy244]; with_reducible exact H) | (have H2_ := (Option.bind_some _ _).symm.trans H; rw [hy244]; with_reducible exact H2_) | (have H2_ := (Option.bind_some _ _).symm.trans H; with_reducible exact H2_) | with_reducible exact H | (rw [hy244]; exact H) | exact H
    have Ny244 := Aside0.mk hy244
    clear hy244
    have H' := Aside0.mk H
    clear H
    go_enter Try.func29, Try.ntmps29
    go_wp2_with (first | ((with_reducible refine gate_callee (f := 54) rfl ?_); refine goesL_ (some 12) rfl rfl Try.func54 (by kernel_rfl) rfl #[.slice A0 l0.length c0] rfl (by (try simp only [List.map_toArray, List.map_cons, List.map_nil]); first | done | rfl | (simp only [List.length_drop, List.length_take]; rfl)) ?_; (with_reducible refine (plait_of.calls k _ _ l0 t243 _ ?side1 ?side2 A2.out).mono ?_); (case side1 => repeat (first | exact HR0.out | (with_reducible refine Kd.C_alloc ?_ _) | (with_reducible refine Kd.C_drewN ?_ _) | (with_reducible refine Kd.C_drew ?_))); (case side2 => exact HC0.out); rintro e w6 ⟨rfl, hb⟩; refine ⟨_, rfl, ?_⟩; have n0_ := Aside0.mk (below_step (by repeat (first | (with_reducible first | exact HB.out | apply below_alloc | apply pw_below_drewN | apply below_drew1) | exact HB.out)) hb); clear HB; have HB := n0_; clear n0_; (try clear hb); (try clear hb2); (try clear hk); (try clear hi)) | ((with_reducible refine gate_dst (N := 20) rfl ?_); refine Kd.R_make Kd.bool _ 4 rfl (N := 20) rfl 69 _ _ rfl (l0.length : Int) rfl rfl Try.underlying69 (.bool false) 1 info4 rfl (by decide) (by omega) false (ok := fun _ => True) (okp := fun _ => True) rfl (fun _ hk => hk) trivial (of_decide_eq_true (by first | (with_reducible assumption) | assumption)) (Nat.le_trans (Nat.mul_le_mul_right _ (of_decide_eq_true (by first | (with_reducible assumption) | assumption) : (l0.length : Int).toNat ≤ 281474976710656)) (by omega)) (Below.refl _ _) (Nat.le_refl _) ?_; intro v245 w7 ho8 hb hg_ hnew_; clear hg_ hnew_; (first | rw [← Ny244.out] at ho8 | (simp only [Int.reduceToNat] at ho8; rw [← Ny244.out] at ho8)); have n0_ := Aside0.mk (Kd.R_lower ho8 (below_size (by repeat (first | (with_reducible first | exact HB.out | apply below_alloc | apply pw_below_drewN | apply below_drew1) | exact HB.out)))); have n1_ := Aside0.mk (below_step (by repeat (first | (with_reducible first | exact HB.out | apply below_alloc | apply pw_below_drewN | apply below_drew1) | exact HB.out)) hb); clear HB; have HO246 := n0_; have HB := n1_; clear n0_ n1_; clear hb ho8))
    go_loopg [7, 23] k (fun kq v7 v23 w' => ∃ (x6_1 : List Bool) (x7_1 : Int) (x23_1 : Int), v7 = .int .i64 x7_1 ∧ v23 = .int .i64 x23_1 ∧ Aside0 (plait_Closed.l0 kq l0 x6_1 x7_1 (l0.length : Int) x23_1 = some (r1, r2)) ∧ Aside0 (kq ≤ k) ∧ Aside0 (Kd.R Kd.bool 4 w' w.heap.size (fun _ => True) v245 x6_1) ∧ Aside0 (Below w.heap.size w w'))
    case atStart => exact ⟨(y244), (0), (0), (by first | rfl | (simp; done) | (simp [*]; done)), (by first | rfl | (simp; done) | (simp [*]; done)), H', ⟨Nat.le_refl _⟩, ⟨by (with_reducible repeat (first | apply Kd.R_alloc | apply Kd.R_drewN | apply Kd.R_drew)); exact HO246.out⟩, ⟨by repeat (first | (with_reducible first | exact HB.out | apply below_alloc | apply pw_below_drewN | apply below_drew1) | exact HB.out)⟩⟩
    case round =>
     clear H'
     try clear c2
     try clear p2
     try clear c3
     try clear c3b0
     try clear c3b1
     try clear c4
     try clear c4b0
     try clear c4b1
     try clear c5
     try clear c5b0
     try clear c5b1
     obtain ⟨x6_1, x7_1, x23_1, rfl, rfl, HA, HK1, HO_6, HB⟩ := hrel
     cases gk with
     | zero => exact absurd HA.out (by simp [plait_Closed.l0])
     | succ k1 =>
      have H := HA.out
      clear HA
      simp only [plait_Closed.l0] at H
      by_cases c9 : x23_1 < (l0.length : Int)
      ·rw [if_pos c9] at H
       have c9b0 : decide (x23_1 < (l0.length : Int)) = true := decide_eq_true c9
       clear c9
       by_cases c10 : 0 ≤ x23_1
       ·rw [if_pos c10] at H
        have c10b0 : decide (0 ≤ x23_1) = true := decide_eq_true c10
        clear c10
        by_cases c11 : x23_1 < (x6_1.length : Int)
        ·rw [if_pos c11] at H
         have c11b0 : decide (x23_1 < (x6_1.length : Int)) = true := decide_eq_true c11
         clear c11
         obtain ⟨bq12, hbq12⟩ : ∃ b_ : Bool, b_ = (rdOf false x6_1 x23_1) := ⟨_, rfl⟩
         replace H : (if bq12 = true then (plait_Closed.l0 k1 l0 x6_1 x7_1 (l0.length : Int) (wrap64 (x23_1 + 1))) else (plait_Closed.l1 k1 l0 x6_1 (wrap64 (x7_1 + 1)) x23_1 (l0.length : Int) x23_1)) = some (r1, r2) := by rw [← hbq12] at H; exact H
         have Nbq12 := Aside0.mk hbq12
         clear hbq12
         by_cases c13 : bq12 = true
         ·subst c13
          have H1 : (plait_Closed.l0 k1 l0 x6_1 x7_1 (l0.length : Int) (wrap64 (x23_1 + 1))) = some (r1, r2) := by rw [if_pos rfl] at H; exact H
          clear H
          have H := H1
          clear H1
          have H' := Aside0.mk H
          clear H
          obtain ⟨Ao14, co14, eo14⟩ := Kd.R_slice HO_6.out
          subst eo14
          have p247 : 0 ≤ (x23_1 : Int) := of_decide_eq_true (by first | (with_reducible assumption) | assumption)
          have q247 : x23_1 < (x6_1.length : Int) := of_decide_eq_true (by first | (with_reducible assumption) | assumption)
          obtain ⟨ad247, e247, hx247_0⟩ := Kd.at_bool (Kd.R_reads' HO_6.out).2.2 x23_1 p247 q247
          (try rw [← Nbq12.out] at hx247_0)
          cases e247
          replace p247 := eq_true p247
          replace q247 := eq_true q247
          go_wp2
          go_roundg k1
          case measure => have := HK1.out; omega
          case rel => exact ⟨(x6_1), (x7_1), (wrap64 (x23_1 + 1)), (by first | rfl | (simp; done) | (simp [*]; done)), (by first | rfl | (simp; done) | (simp [*]; done)), H', ⟨by have := HK1.out; omega⟩, ⟨by (with_reducible repeat (first | apply Kd.R_alloc | apply Kd.R_drewN | apply Kd.R_drew)); exact HO_6.out⟩, ⟨by repeat (first | (with_reducible first | exact HB.out | apply below_alloc | apply pw_below_drewN | apply below_drew1) | exact HB.out)⟩⟩
         ·replace c13 := Bool.eq_false_iff.mpr c13
          subst c13
          have H1 : (plait_Closed.l1 k1 l0 x6_1 (wrap64 (x7_1 + 1)) x23_1 (l0.length : Int) x23_1) = some (r1, r2) := by rw [if_neg (show ¬ (false = true) by decide)] at H; exact H
          clear H
          have H := H1
          clear H1
          have H' := Aside0.mk H
          clear H
          obtain ⟨Ao15, co15, eo15⟩ := Kd.R_slice HO_6.out
          subst eo15
          have p247 : 0 ≤ (x23_1 : Int) := of_decide_eq_true (by first | (with_reducible assumption) | assumption)
          have q247 : x23_1 < (x6_1.length : Int) := of_decide_eq_true (by first | (with_reducible assumption) | assumption)
          obtain ⟨ad247, e247, hx247_0⟩ := Kd.at_bool (Kd.R_reads' HO_6.out).2.2 x23_1 p247 q247
          (try rw [← Nbq12.out] at hx247_0)
          cases e247
          replace p247 := eq_true p247
          replace q247 := eq_true q247
          go_wp2
          go_loopg [9] k1 (fun kq v9 w' => ∃ (x6_2 : List Bool) (x9_2 : Int), v9 = .int .i64 x9_2 ∧ Aside0 (plait_Closed.l1 kq l0 x6_2 (wrap64 (x7_1 + 1)) x9_2 (l0.length : Int) x23_1 = some (r1, r2)) ∧ Aside0 (kq ≤ k1) ∧ Aside0 (Kd.R Kd.bool 4 w' w.heap.size (fun _ => True) (.slice (some ad247) x6_1.length co15) x6_2) ∧ Aside0 (Below w.heap.size w w'))
          case atStart => exact ⟨(x6_1), (x23_1), (by first | rfl | (simp; done) | (simp [*]; done)), H', ⟨Nat.le_refl _⟩, ⟨by (with_reducible repeat (first | apply Kd.R_alloc | apply Kd.R_drewN | apply Kd.R_drew)); exact HO_6.out⟩, ⟨by repeat (first | (with_reducible first | exact HB.out | apply below_alloc | apply pw_below_drewN | apply below_drew1) | exact HB.out)⟩⟩
          case round =>
           clear H'
           try clear c1
           try clear q1
           try clear c2
           try clear p2
           try clear q2
           try clear hx2
           try clear c3
           try clear c3b0
           try clear c3b1
           try clear c4
           try clear c4b0
           try clear c4b1
           try clear c5
           try clear c5b0
           try clear c5b1
           try clear p6
           try clear c9
           try clear c9b0
           try clear c10
           try clear c10b0
           try clear c11
           try clear c11b0
           try clear q12
           try clear c13
           try clear hx247_0
           try clear p2
           try clear p247
           try clear q247
           obtain ⟨x6_2, x9_2, rfl, HA, HK2, HO_6, HB⟩ := hrel
           have hl6_2 := (Kd.R_reads' HO_6.out).1
           rw [hl6_2] at HO_6
           (try simp only [hl6_2])
           cases gk with
           | zero => exact absurd HA.out (by simp [plait_Closed.l1])
           | succ k2 =>
            have H := HA.out
            clear HA
            simp only [plait_Closed.l1] at H
            by_cases c16 : 0 ≤ x9_2
            ·rw [if_pos c16] at H
             have c16b0 : decide (0 ≤ x9_2) = true := decide_eq_true c16
             clear c16
             by_cases c17 : x9_2 < (x6_2.length : Int)
             ·rw [if_pos c17] at H
              have c17b0 : decide (x9_2 < (x6_2.length : Int)) = true := decide_eq_true c17
              clear c17
              obtain ⟨bq18, hbq18⟩ : ∃ b_ : Bool, b_ = (rdOf false x6_2 x9_2) := ⟨_, rfl⟩
              replace H : (if bq18 = true then (plait_Closed.l0 k2 l0 x6_2 (wrap64 (x7_1 + 1)) (l0.length : Int) (wrap64 (x23_1 + 1))) else (if x9_2 < (l0.length : Int) then (if 0 ≤ (rd l0 x9_2) then (if (rd l0 x9_2) < (x6_2.length : Int) then ((plait_diagram_down.f l0 (rd l0 x9_2)).bind fun t253 => (plait_Closed.l1 k2 l0 ((x6_2.set (x9_2 : Int).toNat true).set ((rd l0 x9_2) : Int).toNat true) (wrap64 (x7_1 + 1)) t253 (l0.length : Int) x23_1)) else (none)) else (none)) else (none))) = some (r1, r2) := by rw [← hbq18] at H; exact H
              have Nbq18 := Aside0.mk hbq18
              clear hbq18
              by_cases c19 : bq18 = true
              ·subst c19
               have H1 : (plait_Closed.l0 k2 l0 x6_2 (wrap64 (x7_1 + 1)) (l0.length : Int) (wrap64 (x23_1 + 1))) = some (r1, r2) := by rw [if_pos rfl] at H; exact H
               clear H
               have H := H1
               clear H1
               have H' := Aside0.mk H
               clear H
               have p248 : 0 ≤ (x9_2 : Int) := of_decide_eq_true (by first | (with_reducible assumption) | assumption)
               have q248 : x9_2 < (x6_2.length : Int) := of_decide_eq_true (by first | (with_reducible assumption) | assumption)
               obtain ⟨ad248, e248, hx248_0⟩ := Kd.at_bool (Kd.R_reads' HO_6.out).2.2 x9_2 p248 q248
               (try rw [← Nbq12.out] at hx248_0)
               (try rw [← Nbq18.out] at hx248_0)
               obtain rfl : ad247 = ad248 := (by injection e248)
               replace p248 := eq_true p248
               replace q248 := eq_true q248
               go_wp2
               (try simp only [← hl6_2])
               go_roundg k2
               case measure => have := HK1.out; have := HK2.out; omega
               case rel => exact ⟨(x6_2), ((wrap64 (x7_1 + 1))), (wrap64 (x23_1 + 1)), (by first | rfl | (simp; done) | (simp [*]; done)), (by first | rfl | (simp; done) | (simp [*]; done)), H', ⟨by have := HK1.out; have := HK2.out; omega⟩, ⟨by (try simp only [hl6_2]); (with_reducible repeat (first | apply Kd.R_alloc | apply Kd.R_drewN | apply Kd.R_drew)); exact HO_6.out⟩, ⟨by repeat (first | (with_reducible first | exact HB.out | apply below_alloc | apply pw_below_drewN | apply below_drew1) | exact HB.out)⟩⟩
              ·replace c19 := Bool.eq_false_iff.mpr c19
               subst c19
               have H1 : (if x9_2 < (l0.length : Int) then (if 0 ≤ (rd l0 x9_2) then (if (rd l0 x9_2) < (x6_2.length : Int) then ((plait_diagram_down.f l0 (rd l0 x9_2)).bind fun t253 => (plait_Closed.l1 k2 l0 ((x6_2.set (x9_2 : Int).toNat true).set ((rd l0 x9_2) : Int).toNat true) (wrap64 (x7_1 + 1)) t253 (l0.length : Int) x23_1)) else (none)) else (none)) else (none)) = some (r1, r2) := by rw [if_neg (show ¬ (false = true) by decide)] at H; exact H
               clear H
               have H := H1
               clear H1
               by_cases c20 : x9_2 < (l0.length : Int)
               ·rw [if_pos c20] at H
                have c20b0 : decide (x9_2 < (l0.length : Int)) = true := decide_eq_true c20
                clear c20
                obtain ⟨y250, hy250⟩ : ∃ y_ : List Bool, y_ = (x6_2.set (x9_2 : Int).toNat true) := ⟨_, rfl⟩
                replace H : (if 0 ≤ (rd l0 x9_2) then (if (rd l0 x9_2) < (x6_2.length : Int) then ((plait_diagram_down.f l0 (rd l0 x9_2)).bind fun t253 => (plait_Closed.l1 k2 l0 (y250.set ((rd l0 x9_2) : Int).toNat true) (wrap64 (x7_1 + 1)) t253 (l0.length : Int) x23_1)) else (none)) else (none)) = some (r1, r2) := by first | (rw [hy250]; with_reducible exact H) | (have H2_ := (Option.bind_some _ _).symm.trans H; rw [hy250]; with_reducible exact H2_) | (have H2_ := (Option.bind_some _ _).symm.trans H; with_reducible exact H2_) | with_reducible exact H | (rw [hy250]; exact H) | exact H
                have Ny250 := Aside0.mk hy250
                clear hy250
                by_cases c22 : 0 ≤ (rd l0 x9_2)
                ·rw [if_pos c22] at H
                 have c22b0 : decide (0 ≤ (rd l0 x9_2)) = true := decide_eq_true c22
                 clear c22
                 by_cases c23 : (rd l0 x9_2) < (x6_2.length : Int)
                 ·rw [if_pos c23] at H
                  have c23b0 : decide ((rd l0 x9_2) < (x6_2.length : Int)) = true := decide_eq_true c23
                  clear c23
                  obtain ⟨y251, hy251⟩ : ∃ y_ : List Bool, y_ = (y250.set ((rd l0 x9_2) : Int).toNat true) := ⟨_, rfl⟩
                  replace H : ((plait_diagram_down.f l0 (rd l0 x9_2)).bind fun t253 => (plait_Closed.l1 k2 l0 y251 (wrap64 (x7_1 + 1)) t253 (l0.length : Int) x23_1)) = some (r1, r2) := by first | (rw [hy251]; with_reducible exact H) | (have H2_ := (Option.bind_some _ _).symm.trans H; rw [hy251]; with_reducible exact H2_) | (have H2_ := (Option.bind_some _ _).symm.trans H; with_reducible exact H2_) | with_reducible exact H | (rw [hy251]; exact H) | exact H
                  have Ny251 := Aside0.mk hy251
                  clear hy251
                  replace H := Option.bind_eq_some_iff.mp H
                  obtain ⟨t253, A250, H⟩ := H
                  replace H : (plait_Closed.l1 k2 l0 y251 (wrap64 (x7_1 + 1)) t253 (l0.length : Int) x23_1) = some (r1, r2) := H
                  have A25 := Aside0.mk A250
                  clear A250
                  have H' := Aside0.mk H
                  clear H
                  have p248 : 0 ≤ (x9_2 : Int) := of_decide_eq_true (by first | (with_reducible assumption) | assumption)
                  have q248 : x9_2 < (x6_2.length : Int) := of_decide_eq_true (by first | (with_reducible assumption) | assumption)
                  obtain ⟨ad248, e248, hx248_0⟩ := Kd.at_bool (Kd.R_reads' HO_6.out).2.2 x9_2 p248 q248
                  (try rw [← Nbq12.out] at hx248_0)
                  (try rw [← Nbq18.out] at hx248_0)
                  obtain rfl : ad247 = ad248 := (by injection e248)
                  replace p248 := eq_true p248
                  replace q248 := eq_true q248
                  have p249 : 0 ≤ (x9_2 : Int) := of_decide_eq_true (by first | (with_reducible assumption) | assumption)
                  have q249 : x9_2 < (l0.length : Int) := of_decide_eq_true (by first | (with_reducible assumption) | assumption)
                  obtain ⟨ad249, e249, hx249_0⟩ := Kd.at_int HR0.out x9_2 p249 q249
                  cases e249
                  replace hx249_0 := (HB.out.cell (World.block_lt_of_cell? w _ hx249_0)).trans hx249_0
                  replace p249 := eq_true p249
                  replace q249 := eq_true q249
                  have p21 : 0 ≤ (x9_2 : Int) := of_decide_eq_true (by first | (with_reducible assumption) | assumption)
                  have q21 : (x9_2 : Int) < ((x6_2.length : Int) : Int) := of_decide_eq_true (by first | (with_reducible assumption) | assumption)
                  obtain ⟨go21, co21, eo21, gb21, gl21, cl21, HG21⟩ := Kd.R_form HO_6.out (by omega)
                  (first | cases eo21 | (injection eo21 with ea_ en_ ec_; (first | subst ea_ | (injection ea_ with ea_; subst ea_)); subst ec_; clear en_))
                  (try simp only [add_plain] at *)
                  have GB21 := Aside0.mk gb21
                  have GG21 := Aside0.mk HG21
                  clear gb21 gl21 HG21
                  (first | simp only [add_plain] at hx247_0 | skip)
                  (first | simp only [add_plain] at hx248_0 | skip)
                  obtain ⟨hx21_0, hf21_0⟩ := Kd.R_celln false HO_6.out (x9_2 : Int) p21 q21
                  replace p21 := eq_true p21
                  replace q21 := eq_true q21
                  have HP26 := Kd.R_putg HO_6.out (x9_2 : Int) true
                  go_wp2_with (first | ((with_reducible refine gate_store (t := 4) (p := 51) rfl ?_); refine store_event (t := 4) (p := 51) (v := ?vo_w27) (w1 := (wr.setCell ⟨go21, (x9_2 : Int).toNat, none⟩ (.bool true))) ?hg ?ho ?hn ?hr ?_; (case ho => rfl); (case hg => rfl); (case hn => rfl); (case hr => first | (go_simp; done) | (go_simp; rfl)); intro w27 hw; have hg : wr.grownBy w27 (some go21) := (by rw [hw]; exact HP26.2); have hp_ : Kd.R Kd.bool 4 w27 w.heap.size (fun _ => True) (.slice (some ⟨go21, 0, none⟩) x6_2.length co15) y250 := (by rw [hw, Ny250.out]; exact HP26.1); clear HP26; have n0_ := Aside0.mk (hp_); have n1_ := Aside0.mk ((by rw [hw]; exact below_set (HB.out) GB21.out : Below w.heap.size w w27)); clear HO_6; clear HB; have HO_6 := n0_; have HB := n1_; clear n0_ n1_; clear hg hw hp_; have p24 : 0 ≤ ((rd l0 x9_2) : Int) := of_decide_eq_true (by first | (with_reducible assumption) | assumption); have q24 : ((rd l0 x9_2) : Int) < ((x6_2.length : Int) : Int) := of_decide_eq_true (by first | (with_reducible assumption) | assumption); obtain ⟨hx24_0, hf24_0⟩ := Kd.R_celln false HO_6.out ((rd l0 x9_2) : Int) p24 q24; replace p24 := eq_true p24; replace q24 := eq_true q24; obtain ⟨hy28_, hz28_⟩ := Kd.R_celln false HO_6.out ((rd l0 x9_2) : Int) (of_decide_eq_true (by first | (with_reducible assumption) | assumption)) (of_decide_eq_true (by first | (with_reducible assumption) | assumption)); have HP28 := Kd.R_putg HO_6.out ((rd l0 x9_2) : Int) true) | ((with_reducible refine gate_store (t := 4) (p := 52) rfl ?_); refine store_event (t := 4) (p := 52) (v := ?vo_w29) (w1 := (w27.setCell ⟨go21, ((rd l0 x9_2) : Int).toNat, none⟩ (.bool true))) ?hg ?ho ?hn ?hr ?_; (case ho => rfl); (case hg => rfl); (case hn => rfl); (case hr => first | (go_simp; done) | (go_simp; rfl)); intro w29 hw; have hg : w27.grownBy w29 (some go21) := (by rw [hw]; exact HP28.2); have hp_ : Kd.R Kd.bool 4 w29 w.heap.size (fun _ => True) (.slice (some ⟨go21, 0, none⟩) x6_2.length co15) y251 := (by rw [hw, Ny251.out]; exact HP28.1); clear HP28; have n0_ := Aside0.mk (hp_); have n1_ := Aside0.mk ((by rw [hw]; exact below_set (HB.out) GB21.out : Below w.heap.size w w29)); clear HO_6; clear HB; have HO_6 := n0_; have HB := n1_; clear n0_ n1_; clear hg hw hp_; have p252 : 0 ≤ (x9_2 : Int) := of_decide_eq_true (by first | (with_reducible assumption) | assumption); have q252 : x9_2 < (l0.length : Int) := of_decide_eq_true (by first | (with_reducible assumption) | assumption); obtain ⟨ad252, e252, hx252_0⟩ := Kd.at_int HR0.out x9_2 p252 q252; obtain rfl : ad249 = ad252 := (by injection e252); replace hx252_0 := (HB.out.cell (World.block_lt_of_cell? w _ hx252_0)).trans hx252_0; replace p252 := eq_true p252; replace q252 := eq_true q252) | ((with_reducible refine gate_callee (f := 67) rfl ?_); refine goesL_ (some 43) rfl rfl Try.func67 (by kernel_rfl) rfl #[.slice (some ad249) l0.length c0, .int .i64 (rd l0 x9_2)] rfl (by (try simp only [List.map_toArray, List.map_cons, List.map_nil]); first | done | rfl | (simp only [List.length_drop, List.length_take]; rfl)) ?_; (with_reducible refine (plait_diagram_down.calls _ _ l0 (rd l0 x9_2) t253 _ ?side1 ?side2 A25.out).mono ?_); (case side1 => repeat (first | exact (Kd.C_below HR0.out HB.out) | (with_reducible refine Kd.C_alloc ?_ _) | (with_reducible refine Kd.C_drewN ?_ _) | (with_reducible refine Kd.C_drew ?_))); (case side2 => exact HC0.out); rintro e w' ⟨rfl, ⟨nd, rfl⟩⟩; refine ⟨_, rfl, ?_⟩))
                  (try simp only [← hl6_2])
                  go_roundg k2
                  case measure => have := HK1.out; have := HK2.out; omega
                  case rel => exact ⟨(y251), (t253), (by first | rfl | (simp; done) | (simp [*]; done)), H', ⟨by have := HK1.out; have := HK2.out; omega⟩, ⟨by (try simp only [hl6_2]); (with_reducible repeat (first | apply Kd.R_alloc | apply Kd.R_drewN | apply Kd.R_drew)); exact HO_6.out⟩, ⟨by repeat (first | (with_reducible first | exact HB.out | apply below_alloc | apply pw_below_drewN | apply below_drew1) | exact HB.out)⟩⟩
                 ·rw [if_neg c23] at H
                  exact absurd H (by simp)
                ·rw [if_neg c22] at H
                 exact absurd H (by simp)
               ·rw [if_neg c20] at H
                exact absurd H (by simp)
             ·rw [if_neg c17] at H
              exact absurd H (by simp)
            ·rw [if_neg c16] at H
             exact absurd H (by simp)
        ·rw [if_neg c11] at H
         exact absurd H (by simp)
       ·rw [if_neg c10] at H
        exact absurd H (by simp)
      ·rw [if_neg c9] at H
       have c9b0 : decide (x23_1 < (l0.length : Int)) = false := decide_eq_false c9
       clear c9
       simp only [Option.some.injEq, Prod.mk.injEq] at H
       obtain ⟨rfl, rfl⟩ := H
       go_wp2
       go_ret2
       exact ⟨by first | rfl | (simp [errW_none, errW_some] <;> rfl) | (simp [*, errW_none, errW_some] <;> rfl), by repeat (first | (with_reducible first | exact HB.out | apply below_alloc | apply pw_below_drewN | apply below_drew1) | exact HB.out)⟩
   ·rw [if_neg c5] at H
    exact absurd H (by simp)
  ·rw [if_neg c4] at H
   exact absurd H (by simp)
 ·rw [if_neg c3] at H
  have c3b0 : (t243 == 0) = false := beq_eq_false_iff_ne.mpr c3
  have c3b1 : (t243 != 0) = true := bne_iff_ne.mpr c3
  simp only [Option.some.injEq, Prod.mk.injEq] at H
  obtain ⟨rfl, rfl⟩ := H
  go_enter Try.func29, Try.ntmps29
  go_wp2_with (first | ((with_reducible refine gate_callee (f := 54) rfl ?_); refine goesL_ (some 12) rfl rfl Try.func54 (by kernel_rfl) rfl #[.slice A0 l0.length c0] rfl (by (try simp only [List.map_toArray, List.map_cons, List.map_nil]); first | done | rfl | (simp only [List.length_drop, List.length_take]; rfl)) ?_; (with_reducible refine (plait_of.calls k _ _ l0 t243 _ ?side1 ?side2 A2.out).mono ?_); (case side1 => repeat (first | exact HR0.out | (with_reducible refine Kd.C_alloc ?_ _) | (with_reducible refine Kd.C_drewN ?_ _) | (with_reducible refine Kd.C_drew ?_))); (case side2 => exact HC0.out); rintro e w30 ⟨rfl, hb⟩; refine ⟨_, rfl, ?_⟩; have n0_ := Aside0.mk (below_step (by repeat (first | (with_reducible first | exact HB.out | apply below_alloc | apply pw_below_drewN | apply below_drew1) | exact HB.out)) hb); clear HB; have HB := n0_; clear n0_; (try clear hb); (try clear hb2); (try clear hk); (try clear hi)))
  go_ret2
  exact ⟨by first | rfl | (simp [errW_none, errW_some] <;> rfl) | (simp [*, errW_none, errW_some] <;> rfl), by repeat (first | (with_reducible first | exact HB.out | apply below_alloc | apply pw_below_drewN | apply below_drew1) | exact HB.out)⟩
/-! ### plait_Roads: function 30 -/
def plait_Roads.f (k : Nat) (a0 : ByteArray) (a1 : ByteArray) : Option (Int × Int) := (plait_partners.f k a0).bind fun bt254 => (if bt254.2 = 0 then ((plait_partners.f k a1).bind fun bt258 => (if bt258.2 = 0 then (if (bt254.1.length : Int) = (bt258.1.length : Int) then ((plait_roads.f k bt254.1 bt258.1).bind fun t262 => (some (t262, 0))) else (some (0, 2))) else (some (0, bt258.2)))) else (some (0, bt254.2)))
theorem plait_Roads.mono : ∀ a0 a1 k, LeO (plait_Roads.f k a0 a1) (plait_Roads.f (k + 1) a0 a1) := by
 intro a0 a1 k
 unfold plait_Roads.f
 repeat' first
   | (with_reducible exact plait_partners.mono _ _)
   | (with_reducible exact plait_roads.mono _ _ _)
   | (with_reducible exact LeO.refl _)
   | (with_reducible exact LeO.none _)
   | (with_reducible refine LeO.ite ?_ ?_)
   | (with_reducible refine LeO.bind ?_ (fun _ => ?_))
   | exact plait_partners.mono _ _
   | exact plait_roads.mono _ _ _
   | exact LeO.none _
   | refine LeO.ite ?_ ?_
   | refine LeO.bind ?_ (fun _ => ?_)
set_option maxHeartbeats 8000000 in
set_option maxRecDepth 100000 in
theorem plait_Roads.calls (k : Nat) (a0 : ByteArray) (a1 : ByteArray) (r1 : Int) (r2 : Int) (w : World) (h : plait_Roads.f k a0 a1 = some (r1, r2)) :
  Calls Try.prog 30 #[.string a0, .string a1] w fun e w' => e = .returned (.tuple #[.int .i64 r1, .int .i64 r2]) ∧ Below w.heap.size w w' := by
 have HB := Aside0.mk (Below.refl w.heap.size w)
 have H : ((plait_partners.f k a0).bind fun bt254 => (if bt254.2 = 0 then ((plait_partners.f k a1).bind fun bt258 => (if bt258.2 = 0 then (if (bt254.1.length : Int) = (bt258.1.length : Int) then ((plait_roads.f k bt254.1 bt258.1).bind fun t262 => (some (t262, 0))) else (some (0, 2))) else (some (0, bt258.2)))) else (some (0, bt254.2)))) = some (r1, r2) := h
 clear h
 replace H := Option.bind_eq_some_iff.mp H
 obtain ⟨⟨t254, t255⟩, A30, H⟩ := H
 replace H : (if t255 = 0 then ((plait_partners.f k a1).bind fun bt258 => (if bt258.2 = 0 then (if (t254.length : Int) = (bt258.1.length : Int) then ((plait_roads.f k t254 bt258.1).bind fun t262 => (some (t262, 0))) else (some (0, 2))) else (some (0, bt258.2)))) else (some (0, t255))) = some (r1, r2) := H
 have A3 := Aside0.mk A30
 clear A30
 by_cases c4 : t255 = 0
 ·rw [if_pos c4] at H
  have c4b0 : (t255 == 0) = true := beq_iff_eq.mpr c4
  have c4b1 : (t255 != 0) = false := bne_eq_false_iff_eq.mpr c4
  clear c4
  replace H := Option.bind_eq_some_iff.mp H
  obtain ⟨⟨t258, t259⟩, A50, H⟩ := H
  replace H : (if t259 = 0 then (if (t254.length : Int) = (t258.length : Int) then ((plait_roads.f k t254 t258).bind fun t262 => (some (t262, 0))) else (some (0, 2))) else (some (0, t259))) = some (r1, r2) := H
  have A5 := Aside0.mk A50
  clear A50
  by_cases c6 : t259 = 0
  ·rw [if_pos c6] at H
   have c6b0 : (t259 == 0) = true := beq_iff_eq.mpr c6
   have c6b1 : (t259 != 0) = false := bne_eq_false_iff_eq.mpr c6
   clear c6
   by_cases c7 : (t254.length : Int) = (t258.length : Int)
   ·rw [if_pos c7] at H
    have c7b0 : ((t254.length : Int) == (t258.length : Int)) = true := beq_iff_eq.mpr c7
    have c7b1 : ((t254.length : Int) != (t258.length : Int)) = false := bne_eq_false_iff_eq.mpr c7
    have c7b2 : (t254.length == t258.length) = true := by first | simpa using c7 | (simp at c7 ⊢; omega)
    clear c7
    replace H := Option.bind_eq_some_iff.mp H
    obtain ⟨t262, A80, H⟩ := H
    replace H : (some (t262, 0)) = some (r1, r2) := H
    have A8 := Aside0.mk A80
    clear A80
    simp only [Option.some.injEq, Prod.mk.injEq] at H
    obtain ⟨rfl, rfl⟩ := H
    go_enter Try.func30, Try.ntmps30
    go_wp2_with (first | ((with_reducible refine gate_callee (f := 61) rfl ?_); refine goesL_ (some 11) rfl rfl Try.func61 (by kernel_rfl) rfl #[.string a0] rfl (by (try simp only [List.map_toArray, List.map_cons, List.map_nil]); first | done | rfl | (simp only [List.length_drop, List.length_take]; rfl)) ?_; (with_reducible refine (plait_partners.calls k a0 t254 t255 _ A3.out).mono ?_); rintro e w9 ⟨v256, rfl, ho0, hb⟩; refine ⟨_, rfl, ?_⟩; have n0_ := Aside0.mk (Kd.R_lower ho0 (below_size (by repeat (first | (with_reducible first | exact HB.out | apply below_alloc | apply pw_below_drewN | apply below_drew1) | exact HB.out)))); have n1_ := Aside0.mk (below_step (by repeat (first | (with_reducible first | exact HB.out | apply below_alloc | apply pw_below_drewN | apply below_drew1) | exact HB.out)) hb); clear HB; have HO257 := n0_; have HB := n1_; clear n0_ n1_; (try clear hb); (try clear hb2); (try clear hk); (try clear hi); (try clear ho0)) | ((with_reducible refine gate_callee (f := 61) rfl ?_); refine goesL_ (some 19) rfl rfl Try.func61 (by kernel_rfl) rfl #[.string a1] rfl (by (try simp only [List.map_toArray, List.map_cons, List.map_nil]); first | done | rfl | (simp only [List.length_drop, List.length_take]; rfl)) ?_; (with_reducible refine (plait_partners.calls k a1 t258 t259 _ A5.out).mono ?_); rintro e w10 ⟨v260, rfl, ho0, hb⟩; refine ⟨_, rfl, ?_⟩; have n0_ := Aside0.mk (Kd.R_elder' (by (with_reducible repeat (first | apply Kd.R_alloc | apply Kd.R_drewN | apply Kd.R_drew)); exact HO257.out) (Kd.R_base ho0) hb); have n1_ := Aside0.mk (Kd.R_lower (Kd.R_new' ho0 (Kd.R_lt (by (with_reducible repeat (first | apply Kd.R_alloc | apply Kd.R_drewN | apply Kd.R_drew)); exact HO257.out))) (below_size (by repeat (first | (with_reducible first | exact HB.out | apply below_alloc | apply pw_below_drewN | apply below_drew1) | exact HB.out)))); have n2_ := Aside0.mk (below_step (by repeat (first | (with_reducible first | exact HB.out | apply below_alloc | apply pw_below_drewN | apply below_drew1) | exact HB.out)) hb); clear HO257; clear HB; have HO257 := n0_; have HO261 := n1_; have HB := n2_; clear n0_ n1_ n2_; (try clear hb); (try clear hb2); (try clear hk); (try clear hi); (try clear ho0); obtain ⟨Ao11, co11, eo11⟩ := Kd.R_slice HO257.out; subst eo11; obtain ⟨Ao12, co12, eo12⟩ := Kd.R_slice HO261.out; subst eo12) | ((with_reducible refine gate_callee (f := 62) rfl ?_); refine goesL_ (some 34) rfl rfl Try.func62 (by kernel_rfl) rfl #[.slice Ao11 t254.length co11, .slice Ao12 t258.length co12] rfl (by (try simp only [List.map_toArray, List.map_cons, List.map_nil]); first | done | rfl | (simp only [List.length_drop, List.length_take]; rfl)) ?_; (with_reducible refine (plait_roads.calls k _ _ t254 _ _ t258 t262 _ ?side1 ?side2 ?side3 ?side4 A8.out).mono ?_); (case side1 => repeat (first | exact (Kd.R_reads' HO257.out).2.2 | (with_reducible refine Kd.C_alloc ?_ _) | (with_reducible refine Kd.C_drewN ?_ _) | (with_reducible refine Kd.C_drew ?_))); (case side2 => exact (Kd.R_reads' HO257.out).2.1); (case side3 => repeat (first | exact (Kd.R_reads' HO261.out).2.2 | (with_reducible refine Kd.C_alloc ?_ _) | (with_reducible refine Kd.C_drewN ?_ _) | (with_reducible refine Kd.C_drew ?_))); (case side4 => exact (Kd.R_reads' HO261.out).2.1); rintro e w13 ⟨rfl, hb⟩; refine ⟨_, rfl, ?_⟩; have n0_ := Aside0.mk (Kd.R_below (by (with_reducible repeat (first | apply Kd.R_alloc | apply Kd.R_drewN | apply Kd.R_drew)); exact HO257.out) hb); have n1_ := Aside0.mk (Kd.R_below (by (with_reducible repeat (first | apply Kd.R_alloc | apply Kd.R_drewN | apply Kd.R_drew)); exact HO261.out) hb); have n2_ := Aside0.mk (below_step (by repeat (first | (with_reducible first | exact HB.out | apply below_alloc | apply pw_below_drewN | apply below_drew1) | exact HB.out)) hb); clear HO257; clear HO261; clear HB; have HO257 := n0_; have HO261 := n1_; have HB := n2_; clear n0_ n1_ n2_; (try clear hb); (try clear hb2); (try clear hk); (try clear hi)))
    go_ret2
    exact ⟨by first | rfl | (simp [errW_none, errW_some] <;> rfl) | (simp [*, errW_none, errW_some] <;> rfl), by repeat (first | (with_reducible first | exact HB.out | apply below_alloc | apply pw_below_drewN | apply below_drew1) | exact HB.out)⟩
   ·rw [if_neg c7] at H
    have c7b0 : ((t254.length : Int) == (t258.length : Int)) = false := beq_eq_false_iff_ne.mpr c7
    have c7b1 : ((t254.length : Int) != (t258.length : Int)) = true := bne_iff_ne.mpr c7
    have c7b2 : (t254.length == t258.length) = false := by first | simpa using c7 | (simp at c7 ⊢; omega)
    simp only [Option.some.injEq, Prod.mk.injEq] at H
    obtain ⟨rfl, rfl⟩ := H
    go_enter Try.func30, Try.ntmps30
    go_wp2_with (first | ((with_reducible refine gate_callee (f := 61) rfl ?_); refine goesL_ (some 11) rfl rfl Try.func61 (by kernel_rfl) rfl #[.string a0] rfl (by (try simp only [List.map_toArray, List.map_cons, List.map_nil]); first | done | rfl | (simp only [List.length_drop, List.length_take]; rfl)) ?_; (with_reducible refine (plait_partners.calls k a0 t254 t255 _ A3.out).mono ?_); rintro e w14 ⟨v256, rfl, ho0, hb⟩; refine ⟨_, rfl, ?_⟩; have n0_ := Aside0.mk (Kd.R_lower ho0 (below_size (by repeat (first | (with_reducible first | exact HB.out | apply below_alloc | apply pw_below_drewN | apply below_drew1) | exact HB.out)))); have n1_ := Aside0.mk (below_step (by repeat (first | (with_reducible first | exact HB.out | apply below_alloc | apply pw_below_drewN | apply below_drew1) | exact HB.out)) hb); clear HB; have HO257 := n0_; have HB := n1_; clear n0_ n1_; (try clear hb); (try clear hb2); (try clear hk); (try clear hi); (try clear ho0)) | ((with_reducible refine gate_callee (f := 61) rfl ?_); refine goesL_ (some 19) rfl rfl Try.func61 (by kernel_rfl) rfl #[.string a1] rfl (by (try simp only [List.map_toArray, List.map_cons, List.map_nil]); first | done | rfl | (simp only [List.length_drop, List.length_take]; rfl)) ?_; (with_reducible refine (plait_partners.calls k a1 t258 t259 _ A5.out).mono ?_); rintro e w15 ⟨v260, rfl, ho0, hb⟩; refine ⟨_, rfl, ?_⟩; have n0_ := Aside0.mk (Kd.R_elder' (by (with_reducible repeat (first | apply Kd.R_alloc | apply Kd.R_drewN | apply Kd.R_drew)); exact HO257.out) (Kd.R_base ho0) hb); have n1_ := Aside0.mk (Kd.R_lower (Kd.R_new' ho0 (Kd.R_lt (by (with_reducible repeat (first | apply Kd.R_alloc | apply Kd.R_drewN | apply Kd.R_drew)); exact HO257.out))) (below_size (by repeat (first | (with_reducible first | exact HB.out | apply below_alloc | apply pw_below_drewN | apply below_drew1) | exact HB.out)))); have n2_ := Aside0.mk (below_step (by repeat (first | (with_reducible first | exact HB.out | apply below_alloc | apply pw_below_drewN | apply below_drew1) | exact HB.out)) hb); clear HO257; clear HB; have HO257 := n0_; have HO261 := n1_; have HB := n2_; clear n0_ n1_ n2_; (try clear hb); (try clear hb2); (try clear hk); (try clear hi); (try clear ho0); obtain ⟨Ao16, co16, eo16⟩ := Kd.R_slice HO257.out; subst eo16; obtain ⟨Ao17, co17, eo17⟩ := Kd.R_slice HO261.out; subst eo17))
    go_ret2
    exact ⟨by first | rfl | (simp [errW_none, errW_some] <;> rfl) | (simp [*, errW_none, errW_some] <;> rfl), by repeat (first | (with_reducible first | exact HB.out | apply below_alloc | apply pw_below_drewN | apply below_drew1) | exact HB.out)⟩
  ·rw [if_neg c6] at H
   have c6b0 : (t259 == 0) = false := beq_eq_false_iff_ne.mpr c6
   have c6b1 : (t259 != 0) = true := bne_iff_ne.mpr c6
   simp only [Option.some.injEq, Prod.mk.injEq] at H
   obtain ⟨rfl, rfl⟩ := H
   go_enter Try.func30, Try.ntmps30
   go_wp2_with (first | ((with_reducible refine gate_callee (f := 61) rfl ?_); refine goesL_ (some 11) rfl rfl Try.func61 (by kernel_rfl) rfl #[.string a0] rfl (by (try simp only [List.map_toArray, List.map_cons, List.map_nil]); first | done | rfl | (simp only [List.length_drop, List.length_take]; rfl)) ?_; (with_reducible refine (plait_partners.calls k a0 t254 t255 _ A3.out).mono ?_); rintro e w18 ⟨v256, rfl, ho0, hb⟩; refine ⟨_, rfl, ?_⟩; have n0_ := Aside0.mk (Kd.R_lower ho0 (below_size (by repeat (first | (with_reducible first | exact HB.out | apply below_alloc | apply pw_below_drewN | apply below_drew1) | exact HB.out)))); have n1_ := Aside0.mk (below_step (by repeat (first | (with_reducible first | exact HB.out | apply below_alloc | apply pw_below_drewN | apply below_drew1) | exact HB.out)) hb); clear HB; have HO257 := n0_; have HB := n1_; clear n0_ n1_; (try clear hb); (try clear hb2); (try clear hk); (try clear hi); (try clear ho0)) | ((with_reducible refine gate_callee (f := 61) rfl ?_); refine goesL_ (some 19) rfl rfl Try.func61 (by kernel_rfl) rfl #[.string a1] rfl (by (try simp only [List.map_toArray, List.map_cons, List.map_nil]); first | done | rfl | (simp only [List.length_drop, List.length_take]; rfl)) ?_; (with_reducible refine (plait_partners.calls k a1 t258 t259 _ A5.out).mono ?_); rintro e w19 ⟨v260, rfl, ho0, hb⟩; refine ⟨_, rfl, ?_⟩; have n0_ := Aside0.mk (Kd.R_elder' (by (with_reducible repeat (first | apply Kd.R_alloc | apply Kd.R_drewN | apply Kd.R_drew)); exact HO257.out) (Kd.R_base ho0) hb); have n1_ := Aside0.mk (Kd.R_lower (Kd.R_new' ho0 (Kd.R_lt (by (with_reducible repeat (first | apply Kd.R_alloc | apply Kd.R_drewN | apply Kd.R_drew)); exact HO257.out))) (below_size (by repeat (first | (with_reducible first | exact HB.out | apply below_alloc | apply pw_below_drewN | apply below_drew1) | exact HB.out)))); have n2_ := Aside0.mk (below_step (by repeat (first | (with_reducible first | exact HB.out | apply below_alloc | apply pw_below_drewN | apply below_drew1) | exact HB.out)) hb); clear HO257; clear HB; have HO257 := n0_; have HO261 := n1_; have HB := n2_; clear n0_ n1_ n2_; (try clear hb); (try clear hb2); (try clear hk); (try clear hi); (try clear ho0)))
   go_ret2
   exact ⟨by first | rfl | (simp [errW_none, errW_some] <;> rfl) | (simp [*, errW_none, errW_some] <;> rfl), by repeat (first | (with_reducible first | exact HB.out | apply below_alloc | apply pw_below_drewN | apply below_drew1) | exact HB.out)⟩
 ·rw [if_neg c4] at H
  have c4b0 : (t255 == 0) = false := beq_eq_false_iff_ne.mpr c4
  have c4b1 : (t255 != 0) = true := bne_iff_ne.mpr c4
  simp only [Option.some.injEq, Prod.mk.injEq] at H
  obtain ⟨rfl, rfl⟩ := H
  go_enter Try.func30, Try.ntmps30
  go_wp2_with (first | ((with_reducible refine gate_callee (f := 61) rfl ?_); refine goesL_ (some 11) rfl rfl Try.func61 (by kernel_rfl) rfl #[.string a0] rfl (by (try simp only [List.map_toArray, List.map_cons, List.map_nil]); first | done | rfl | (simp only [List.length_drop, List.length_take]; rfl)) ?_; (with_reducible refine (plait_partners.calls k a0 t254 t255 _ A3.out).mono ?_); rintro e w20 ⟨v256, rfl, ho0, hb⟩; refine ⟨_, rfl, ?_⟩; have n0_ := Aside0.mk (Kd.R_lower ho0 (below_size (by repeat (first | (with_reducible first | exact HB.out | apply below_alloc | apply pw_below_drewN | apply below_drew1) | exact HB.out)))); have n1_ := Aside0.mk (below_step (by repeat (first | (with_reducible first | exact HB.out | apply below_alloc | apply pw_below_drewN | apply below_drew1) | exact HB.out)) hb); clear HB; have HO257 := n0_; have HB := n1_; clear n0_ n1_; (try clear hb); (try clear hb2); (try clear hk); (try clear hi); (try clear ho0)))
  go_ret2
  exact ⟨by first | rfl | (simp [errW_none, errW_some] <;> rfl) | (simp [*, errW_none, errW_some] <;> rfl), by repeat (first | (with_reducible first | exact HB.out | apply below_alloc | apply pw_below_drewN | apply below_drew1) | exact HB.out)⟩
end Go.Proofs.Ytjfkompfkgjdaaa.PC
end
section
namespace Go.Proofs.Ytjfkompfkgjdaaa.PC
open Go.RowKit Go.Proofs.YtjfkompfkgjdaaaW.PrintWords Go.Proofs.YtjfkompfkgjdaaaW.PrintLast Go.Proofs.YtjfkompfkgjdaaaW.PrintMore
attribute [local go_sem] max2_int min2_int max_two min_two max_three min_three max_four min_four   -- for this text's walks alone
set_option linter.unusedVariables false
set_option linter.unusedSimpArgs false
/-! ### plait_Meanders: function 24 -/
mutual
def plait_Meanders.j0 : Nat → Int → Int → Bool → Option (Int × Int)
 | 0, _, _, _ => none
 | k + 1, x0, x1, x29 => if x29 = true then (some (0, 2)) else ((strings_Repeat.f (⟨#[40]⟩ : ByteArray) x0).bind fun t223 => ((strings_Repeat.f (⟨#[41]⟩ : ByteArray) x0).bind fun t224 => (if t223.size + t224.size ≤ 9223372036854775807 then (plait_Meanders.l0 k x1 ([] : List (List Int)) (t223 ++ t224)) else (none))))
def plait_Meanders.l0 : Nat → Int → List (List Int) → ByteArray → Option (Int × Int)
 | 0, _, _, _ => none
 | k + 1, x1, x6, x7 => if x7.toList = ([] : List UInt8) then (plait_Meanders.l1 k x1 x6 0 x6 (x6.length : Int) 0) else ((plait_partners.f k x7).bind fun bt225 => (if x6.length < 5864062014805 then ((plait_next.f k x7).bind fun t232 => (plait_Meanders.l0 k x1 (x6 ++ [bt225.1]) t232)) else (none)))
def plait_Meanders.l1 : Nat → Int → List (List Int) → Int → List (List Int) → Int → Int → Option (Int × Int)
 | 0, _, _, _, _, _, _ => none
 | k + 1, x1, x6, x10, x48, x49, x50 => if x50 < x49 then (if 0 ≤ x50 then (if x50 < (x48.length : Int) then (plait_Meanders.l2 k x1 x6 x10 (rd_L3 x48 x50) x48 x49 x50 x6 (x6.length : Int) 0) else (none)) else (none)) else (some (x10, 0))
def plait_Meanders.l2 : Nat → Int → List (List Int) → Int → List Int → List (List Int) → Int → Int → List (List Int) → Int → Int → Option (Int × Int)
 | 0, _, _, _, _, _, _, _, _, _, _ => none
 | k + 1, x1, x6, x10, x12, x48, x49, x50, x54, x55, x56 => if x56 < x55 then (if 0 ≤ x56 then (if x56 < (x54.length : Int) then ((plait_roads.f k x12 (rd_L3 x54 x56)).bind fun t235 => (if t235 = x1 then (plait_Meanders.l2 k x1 x6 (wrap64 (x10 + 1)) x12 x48 x49 x50 x54 x55 (wrap64 (x56 + 1))) else (plait_Meanders.l2 k x1 x6 x10 x12 x48 x49 x50 x54 x55 (wrap64 (x56 + 1))))) else (none)) else (none)) else (plait_Meanders.l1 k x1 x6 x10 x48 x49 (wrap64 (x50 + 1)))
end
def plait_Meanders.f (k : Nat) (a0 : Int) (a1 : Int) : Option (Int × Int) := if a0 < 1 then (plait_Meanders.j0 k a0 a1 true) else (if a0 > 7 then (plait_Meanders.j0 k a0 a1 true) else (if a1 < 1 then (plait_Meanders.j0 k a0 a1 true) else (plait_Meanders.j0 k a0 a1 (decide (a1 > a0)))))
theorem plait_Meanders.mono_l : ∀ k, (∀ y0 y1 y2, LeO (plait_Meanders.j0 k y0 y1 y2) (plait_Meanders.j0 (k + 1) y0 y1 y2)) ∧ (∀ y0 y1 y2, LeO (plait_Meanders.l0 k y0 y1 y2) (plait_Meanders.l0 (k + 1) y0 y1 y2)) ∧ (∀ y0 y1 y2 y3 y4 y5, LeO (plait_Meanders.l1 k y0 y1 y2 y3 y4 y5) (plait_Meanders.l1 (k + 1) y0 y1 y2 y3 y4 y5)) ∧ (∀ y0 y1 y2 y3 y4 y5 y6 y7 y8 y9, LeO (plait_Meanders.l2 k y0 y1 y2 y3 y4 y5 y6 y7 y8 y9) (plait_Meanders.l2 (k + 1) y0 y1 y2 y3 y4 y5 y6 y7 y8 y9))
 | 0 => ⟨fun _ _ _ r h => by simp [plait_Meanders.j0] at h, fun _ _ _ r h => by simp [plait_Meanders.l0] at h, fun _ _ _ _ _ _ r h => by simp [plait_Meanders.l1] at h, fun _ _ _ _ _ _ _ _ _ _ r h => by simp [plait_Meanders.l2] at h⟩
 | k + 1 => by
  obtain ⟨ih0, ih1, ih2, ih3⟩ := plait_Meanders.mono_l k
  refine ⟨?_, ?_, ?_, ?_⟩
  ·intro y0 y1 y2
   unfold plait_Meanders.j0
   repeat' first
   | (with_reducible exact ih0 _ _ _)
   | (with_reducible exact ih1 _ _ _)
   | (with_reducible exact ih2 _ _ _ _ _ _)
   | (with_reducible exact ih3 _ _ _ _ _ _ _ _ _ _)
   | (with_reducible exact plait_next.mono _ _)
   | (with_reducible exact plait_partners.mono _ _)
   | (with_reducible exact plait_roads.mono _ _ _)
   | (with_reducible exact LeO.refl _)
   | (with_reducible exact LeO.none _)
   | (with_reducible refine LeO.ite ?_ ?_)
   | (with_reducible refine LeO.bind ?_ (fun _ => ?_))
   | exact ih0 _ _ _
   | exact ih1 _ _ _
   | exact ih2 _ _ _ _ _ _
   | exact ih3 _ _ _ _ _ _ _ _ _ _
   | exact plait_next.mono _ _
   | exact plait_partners.mono _ _
   | exact plait_roads.mono _ _ _
   | exact LeO.none _
   | refine LeO.ite ?_ ?_
   | refine LeO.bind ?_ (fun _ => ?_)
  ·intro y0 y1 y2
   unfold plait_Meanders.l0
   repeat' first
   | (with_reducible exact ih0 _ _ _)
   | (with_reducible exact ih1 _ _ _)
   | (with_reducible exact ih2 _ _ _ _ _ _)
   | (with_reducible exact ih3 _ _ _ _ _ _ _ _ _ _)
   | (with_reducible exact plait_next.mono _ _)
   | (with_reducible exact plait_partners.mono _ _)
   | (with_reducible exact plait_roads.mono _ _ _)
   | (with_reducible exact LeO.refl _)
   | (with_reducible exact LeO.none _)
   | (with_reducible refine LeO.ite ?_ ?_)
   | (with_reducible refine LeO.bind ?_ (fun _ => ?_))
   | exact ih0 _ _ _
   | exact ih1 _ _ _
   | exact ih2 _ _ _ _ _ _
   | exact ih3 _ _ _ _ _ _ _ _ _ _
   | exact plait_next.mono _ _
   | exact plait_partners.mono _ _
   | exact plait_roads.mono _ _ _
   | exact LeO.none _
   | refine LeO.ite ?_ ?_
   | refine LeO.bind ?_ (fun _ => ?_)
  ·intro y0 y1 y2 y3 y4 y5
   unfold plait_Meanders.l1
   repeat' first
   | (with_reducible exact ih0 _ _ _)
   | (with_reducible exact ih1 _ _ _)
   | (with_reducible exact ih2 _ _ _ _ _ _)
   | (with_reducible exact ih3 _ _ _ _ _ _ _ _ _ _)
   | (with_reducible exact plait_next.mono _ _)
   | (with_reducible exact plait_partners.mono _ _)
   | (with_reducible exact plait_roads.mono _ _ _)
   | (with_reducible exact LeO.refl _)
   | (with_reducible exact LeO.none _)
   | (with_reducible refine LeO.ite ?_ ?_)
   | (with_reducible refine LeO.bind ?_ (fun _ => ?_))
   | exact ih0 _ _ _
   | exact ih1 _ _ _
   | exact ih2 _ _ _ _ _ _
   | exact ih3 _ _ _ _ _ _ _ _ _ _
   | exact plait_next.mono _ _
   | exact plait_partners.mono _ _
   | exact plait_roads.mono _ _ _
   | exact LeO.none _
   | refine LeO.ite ?_ ?_
   | refine LeO.bind ?_ (fun _ => ?_)
  ·intro y0 y1 y2 y3 y4 y5 y6 y7 y8 y9
   unfold plait_Meanders.l2
   repeat' first
   | (with_reducible exact ih0 _ _ _)
   | (with_reducible exact ih1 _ _ _)
   | (with_reducible exact ih2 _ _ _ _ _ _)
   | (with_reducible exact ih3 _ _ _ _ _ _ _ _ _ _)
   | (with_reducible exact plait_next.mono _ _)
   | (with_reducible exact plait_partners.mono _ _)
   | (with_reducible exact plait_roads.mono _ _ _)
   | (with_reducible exact LeO.refl _)
   | (with_reducible exact LeO.none _)
   | (with_reducible refine LeO.ite ?_ ?_)
   | (with_reducible refine LeO.bind ?_ (fun _ => ?_))
   | exact ih0 _ _ _
   | exact ih1 _ _ _
   | exact ih2 _ _ _ _ _ _
   | exact ih3 _ _ _ _ _ _ _ _ _ _
   | exact plait_next.mono _ _
   | exact plait_partners.mono _ _
   | exact plait_roads.mono _ _ _
   | exact LeO.none _
   | refine LeO.ite ?_ ?_
   | refine LeO.bind ?_ (fun _ => ?_)
theorem plait_Meanders.mono : ∀ a0 a1 k, LeO (plait_Meanders.f k a0 a1) (plait_Meanders.f (k + 1) a0 a1) := by
 intro a0 a1 k
 obtain ⟨ih0, ih1, ih2, ih3⟩ := plait_Meanders.mono_l k
 unfold plait_Meanders.f
 repeat' first
   | (with_reducible exact ih0 _ _ _)
   | (with_reducible exact ih1 _ _ _)
   | (with_reducible exact ih2 _ _ _ _ _ _)
   | (with_reducible exact ih3 _ _ _ _ _ _ _ _ _ _)
   | (with_reducible exact plait_next.mono _ _)
   | (with_reducible exact plait_partners.mono _ _)
   | (with_reducible exact plait_roads.mono _ _ _)
   | (with_reducible exact LeO.refl _)
   | (with_reducible exact LeO.none _)
   | (with_reducible refine LeO.ite ?_ ?_)
   | (with_reducible refine LeO.bind ?_ (fun _ => ?_))
   | exact ih0 _ _ _
   | exact ih1 _ _ _
   | exact ih2 _ _ _ _ _ _
   | exact ih3 _ _ _ _ _ _ _ _ _ _
   | exact plait_next.mono _ _
   | exact plait_partners.mono _ _
   | exact plait_roads.mono _ _ _
   | exact LeO.none _
   | refine LeO.ite ?_ ?_
   | refine LeO.bind ?_ (fun _ => ?_)
set_option maxHeartbeats 8000000 in
set_option maxRecDepth 100000 in
theorem plait_Meanders.calls (k : Nat) (a0 : Int) (a1 : Int) (r1 : Int) (r2 : Int) (w : World) (h : plait_Meanders.f k a0 a1 = some (r1, r2)) :
  Calls Try.prog 24 #[.int .i64 a0, .int .i64 a1] w fun e w' => e = .returned (.tuple #[.int .i64 r1, .int .i64 r2]) ∧ Below w.heap.size w w' := by
 have HB := Aside0.mk (Below.refl w.heap.size w)
 have H : (if a0 < 1 then (plait_Meanders.j0 k a0 a1 true) else (if a0 > 7 then (plait_Meanders.j0 k a0 a1 true) else (if a1 < 1 then (plait_Meanders.j0 k a0 a1 true) else (plait_Meanders.j0 k a0 a1 (decide (a1 > a0)))))) = some (r1, r2) := h
 clear h
 have HC3 := Aside0.mk H
 clear H
 go_enter Try.func24, Try.ntmps24
 go_upto_region 1 with (fail)
 go_cut [29] (fun v29 wc => ∃ (kq : Nat) (x29_2 : Bool), v29 = .bool x29_2 ∧ Aside0 (plait_Meanders.j0 kq a0 a1 x29_2 = some (r1, r2)) ∧ Aside0 (kq ≤ k) ∧ Aside0 (Below w.heap.size w wc))
 case first =>
  have H := HC3.out
  clear HC3
  by_cases c4 : a0 < 1
  ·rw [if_pos c4] at H
   have c4b0 : decide (a0 < 1) = true := decide_eq_true c4
   clear c4
   (first | rw [c4b0] | (simp only [i64_w, i32_w]; rw [c4b0]) | skip)
   have H' := Aside0.mk H
   clear H
   go_wp2
   go_meet
   case rel => exact ⟨_, (true), (by first | rfl | (simp; done) | (simp [*]; done)), H', ⟨by first | omega | exact Nat.le_refl _⟩, ⟨by repeat (first | (with_reducible first | exact HB.out | apply below_alloc | apply pw_below_drewN | apply below_drew1) | exact HB.out)⟩⟩
  ·rw [if_neg c4] at H
   have c4b0 : decide (a0 < 1) = false := decide_eq_false c4
   clear c4
   (first | rw [c4b0] | (simp only [i64_w, i32_w]; rw [c4b0]) | skip)
   by_cases c5 : a0 > 7
   ·rw [if_pos c5] at H
    have c5b0 : decide (7 < a0) = true := decide_eq_true c5
    clear c5
    have H' := Aside0.mk H
    clear H
    go_wp2
    go_meet
    case rel => exact ⟨_, (true), (by first | rfl | (simp; done) | (simp [*]; done)), H', ⟨by first | omega | exact Nat.le_refl _⟩, ⟨by repeat (first | (with_reducible first | exact HB.out | apply below_alloc | apply pw_below_drewN | apply below_drew1) | exact HB.out)⟩⟩
   ·rw [if_neg c5] at H
    have c5b0 : decide (7 < a0) = false := decide_eq_false c5
    clear c5
    by_cases c6 : a1 < 1
    ·rw [if_pos c6] at H
     have c6b0 : decide (a1 < 1) = true := decide_eq_true c6
     clear c6
     have H' := Aside0.mk H
     clear H
     go_wp2
     go_meet
     case rel => exact ⟨_, (true), (by first | rfl | (simp; done) | (simp [*]; done)), H', ⟨by first | omega | exact Nat.le_refl _⟩, ⟨by repeat (first | (with_reducible first | exact HB.out | apply below_alloc | apply pw_below_drewN | apply below_drew1) | exact HB.out)⟩⟩
    ·rw [if_neg c6] at H
     have c6b0 : decide (a1 < 1) = false := decide_eq_false c6
     clear c6
     have H' := Aside0.mk H
     clear H
     go_wp2
     go_meet
     case rel => exact ⟨_, (decide (a1 > a0)), (by first | rfl | (simp; done) | (simp [*]; done)), H', ⟨by first | omega | exact Nat.le_refl _⟩, ⟨by repeat (first | (with_reducible first | exact HB.out | apply below_alloc | apply pw_below_drewN | apply below_drew1) | exact HB.out)⟩⟩
 case rest =>
  clear HC3
  try clear c2
  try clear p2
  try clear c4
  try clear c4b0
  try clear c5
  try clear c5b0
  try clear c6
  try clear c6b0
  obtain ⟨kq, x29_2, rfl, HA, HJ2, HB⟩ := hcut
  cases kq with
  | zero => exact absurd HA.out (by simp [plait_Meanders.j0])
  | succ kj2 =>
   have H := HA.out
   clear HA
   simp only [plait_Meanders.j0] at H
   by_cases c7 : x29_2 = true
   ·subst c7
    have H1 : (some (0, 2)) = some (r1, r2) := by rw [if_pos rfl] at H; exact H
    clear H
    have H := H1
    clear H1
    simp only [Option.some.injEq, Prod.mk.injEq] at H
    obtain ⟨rfl, rfl⟩ := H
    go_wp2
    go_ret2
    exact ⟨by first | rfl | (simp [errW_none, errW_some] <;> rfl) | (simp [*, errW_none, errW_some] <;> rfl), by repeat (first | (with_reducible first | exact HB.out | apply below_alloc | apply pw_below_drewN | apply below_drew1) | exact HB.out)⟩
   ·replace c7 := Bool.eq_false_iff.mpr c7
    subst c7
    have H1 : ((strings_Repeat.f (⟨#[40]⟩ : ByteArray) a0).bind fun t223 => ((strings_Repeat.f (⟨#[41]⟩ : ByteArray) a0).bind fun t224 => (if t223.size + t224.size ≤ 9223372036854775807 then (plait_Meanders.l0 kj2 a1 ([] : List (List Int)) (t223 ++ t224)) else (none)))) = some (r1, r2) := by rw [if_neg (show ¬ (false = true) by decide)] at H; exact H
    clear H
    have H := H1
    clear H1
    replace H := Option.bind_eq_some_iff.mp H
    obtain ⟨t223, A80, H⟩ := H
    replace H : ((strings_Repeat.f (⟨#[41]⟩ : ByteArray) a0).bind fun t224 => (if t223.size + t224.size ≤ 9223372036854775807 then (plait_Meanders.l0 kj2 a1 ([] : List (List Int)) (t223 ++ t224)) else (none))) = some (r1, r2) := H
    have A8 := Aside0.mk A80
    clear A80
    replace H := Option.bind_eq_some_iff.mp H
    obtain ⟨t224, A90, H⟩ := H
    replace H : (if t223.size + t224.size ≤ 9223372036854775807 then (plait_Meanders.l0 kj2 a1 ([] : List (List Int)) (t223 ++ t224)) else (none)) = some (r1, r2) := H
    have A9 := Aside0.mk A90
    clear A90
    by_cases c10 : t223.size + t224.size ≤ 9223372036854775807
    ·rw [if_pos c10] at H
     have c10b0 := eq_true c10
     have c10b1 : decide (t223.size + t224.size ≤ 9223372036854775807) = true := decide_eq_true c10
     try have c10b2 : (9223372036854775807 < t223.size + t224.size) = False := eq_false (Nat.not_lt.2 c10)
     have H' := Aside0.mk H
     clear H
     go_wp2_with (first | ((with_reducible refine gate_callee (f := 59) rfl ?_); refine goesL_ (some 31) rfl rfl Try.func59 (by kernel_rfl) rfl #[.string (⟨#[40]⟩ : ByteArray), .int .i64 a0] rfl (by (try simp only [List.map_toArray, List.map_cons, List.map_nil]); first | done | rfl | (simp only [List.length_drop, List.length_take]; rfl)) ?_; (with_reducible refine (strings_Repeat.calls (⟨#[40]⟩ : ByteArray) a0 t223 _ A8.out).mono ?_); rintro e w11 ⟨rfl, hb⟩; refine ⟨_, rfl, ?_⟩; have n0_ := Aside0.mk (below_step (by repeat (first | (with_reducible first | exact HB.out | apply below_alloc | apply pw_below_drewN | apply below_drew1) | exact HB.out)) hb); clear HB; have HB := n0_; clear n0_; (try clear hb); (try clear hb2); (try clear hk); (try clear hi)) | ((with_reducible refine gate_callee (f := 59) rfl ?_); refine goesL_ (some 33) rfl rfl Try.func59 (by kernel_rfl) rfl #[.string (⟨#[41]⟩ : ByteArray), .int .i64 a0] rfl (by (try simp only [List.map_toArray, List.map_cons, List.map_nil]); first | done | rfl | (simp only [List.length_drop, List.length_take]; rfl)) ?_; (with_reducible refine (strings_Repeat.calls (⟨#[41]⟩ : ByteArray) a0 t224 _ A9.out).mono ?_); rintro e w12 ⟨rfl, hb⟩; refine ⟨_, rfl, ?_⟩; have n0_ := Aside0.mk (below_step (by repeat (first | (with_reducible first | exact HB.out | apply below_alloc | apply pw_below_drewN | apply below_drew1) | exact HB.out)) hb); clear HB; have HB := n0_; clear n0_; (try clear hb); (try clear hb2); (try clear hk); (try clear hi)))
     go_loopg [6, 7] kj2 (fun kq v6 v7 w' => ∃ (x6_2 : List (List Int)) (x7_2 : ByteArray), v7 = .string x7_2 ∧ Aside0 (plait_Meanders.l0 kq a1 x6_2 x7_2 = some (r1, r2)) ∧ Aside0 (kq ≤ kj2) ∧ Aside0 (Kd.S (Kd.slice 3 (Kd.int .i64)) 22 w' w.heap.size (fun _ => True) v6 x6_2) ∧ Aside0 (Below w.heap.size w w'))
     case atStart => exact ⟨(([] : List (List Int))), (t223 ++ t224), (by first | rfl | (simp; done) | (simp [*]; done)), H', ⟨Nat.le_refl _⟩, ⟨by first | exact Kd.S_nil _ _ _ _ _ | exact Kd.N_nil _ _ _ _ _ | exact Kd.V_nil _ _ _ _ _ | exact Kd.Q_nil _ _ _ _ _ | exact Kd.R_nil _ _ _ _ _⟩, ⟨by repeat (first | (with_reducible first | exact HB.out | apply below_alloc | apply pw_below_drewN | apply below_drew1) | exact HB.out)⟩⟩
     case round =>
      clear H'
      try clear c1
      try clear c2
      try clear p2
      try clear c4
      try clear c4b0
      try clear c5
      try clear c5b0
      try clear c6
      try clear c6b0
      try clear c7
      try clear c10
      try clear c10b0
      try clear c10b1
      try clear c10b2
      try clear p2
      obtain ⟨x6_2, x7_2, rfl, HA, HK2, HO_6, HB⟩ := hrel
      cases gk with
      | zero => exact absurd HA.out (by simp [plait_Meanders.l0])
      | succ k2 =>
       have H := HA.out
       clear HA
       simp only [plait_Meanders.l0] at H
       by_cases c13 : x7_2.toList = ([] : List UInt8)
       ·rw [if_pos c13] at H
        have c13b0 : (x7_2.toList == ([] : List UInt8)) = true := beq_iff_eq.mpr c13
        have c13b1 : (x7_2.toList != ([] : List UInt8)) = false := bne_eq_false_iff_eq.mpr c13
        clear c13
        have H' := Aside0.mk H
        clear H
        obtain ⟨Ao14, co14, eo14⟩ := Kd.S_slice HO_6.out
        subst eo14
        go_wp2
        go_loopg [10, 50] k2 (fun kq v10 v50 w' => ∃ (x10_3 : Int) (x50_3 : Int), v10 = .int .i64 x10_3 ∧ v50 = .int .i64 x50_3 ∧ Aside0 (plait_Meanders.l1 kq a1 x6_2 x10_3 x6_2 (x6_2.length : Int) x50_3 = some (r1, r2)) ∧ Aside0 (kq ≤ k2) ∧ Aside0 (Kd.S (Kd.slice 3 (Kd.int .i64)) 22 w' w.heap.size (fun _ => True) (.slice Ao14 x6_2.length co14) x6_2) ∧ Aside0 (Kd.S (Kd.slice 3 (Kd.int .i64)) 22 w' w.heap.size (fun _ => True) (.slice Ao14 x6_2.length co14) x6_2) ∧ Aside0 (Below w.heap.size w w'))
        case atStart => exact ⟨(0), (0), (by first | rfl | (simp; done) | (simp [*]; done)), (by first | rfl | (simp; done) | (simp [*]; done)), H', ⟨Nat.le_refl _⟩, ⟨by (with_reducible repeat (first | apply Kd.S_alloc | apply Kd.S_drewN | apply Kd.S_drew)); exact HO_6.out⟩, ⟨by (with_reducible repeat (first | apply Kd.S_alloc | apply Kd.S_drewN | apply Kd.S_drew)); exact HO_6.out⟩, ⟨by repeat (first | (with_reducible first | exact HB.out | apply below_alloc | apply pw_below_drewN | apply below_drew1) | exact HB.out)⟩⟩
        case round =>
         clear H'
         try clear c1
         try clear c2
         try clear p2
         try clear c4
         try clear c4b0
         try clear c5
         try clear c5b0
         try clear c6
         try clear c6b0
         try clear c7
         try clear c10
         try clear c10b0
         try clear c10b1
         try clear c10b2
         try clear c13
         try clear c13b0
         try clear c13b1
         try clear p2
         obtain ⟨x10_3, x50_3, rfl, rfl, HA, HK3, HO_6, HO_48, HB⟩ := hrel
         cases gk with
         | zero => exact absurd HA.out (by simp [plait_Meanders.l1])
         | succ k3 =>
          have H := HA.out
          clear HA
          simp only [plait_Meanders.l1] at H
          by_cases c15 : x50_3 < (x6_2.length : Int)
          ·rw [if_pos c15] at H
           have c15b0 : decide (x50_3 < (x6_2.length : Int)) = true := decide_eq_true c15
           clear c15
           by_cases c16 : 0 ≤ x50_3
           ·rw [if_pos c16] at H
            have c16b0 : decide (0 ≤ x50_3) = true := decide_eq_true c16
            clear c16
            by_cases c17 : x50_3 < (x6_2.length : Int)
            ·rw [if_pos c17] at H
             have c17b0 : decide (x50_3 < (x6_2.length : Int)) = true := decide_eq_true c17
             clear c17
             have H' := Aside0.mk H
             clear H
             have p233 : 0 ≤ (x50_3 : Int) := of_decide_eq_true (by first | (with_reducible assumption) | assumption)
             have q233 : x50_3 < (x6_2.length : Int) := of_decide_eq_true (by first | (with_reducible assumption) | assumption)
             obtain ⟨ad233, A233_0, c233_0, e233, hx233_0, hl233_0, hi233_0⟩ := at_L3 (Kd.S_reads' HO_48.out).2.2 x50_3 p233 q233
             cases e233
             obtain ⟨ce233, hce233, hMe233, hcc233⟩ := Kd.S_get HO_48.out [] x50_3 p233 (by first | exact q233 | exact of_decide_eq_true (by first | (with_reducible assumption) | assumption) | (have e_ := (Kd.S_reads' HO_48.out).1; omega))
             obtain ⟨ve233_0, rfl, ge233_0⟩ := hMe233
             have hv233_0 := hcc233 0 _ rfl
             rw [Nat.add_zero, show ((Kd.slice 3 (Kd.int .i64))).sz = 1 from rfl, Nat.mul_one] at hv233_0
             replace hv233_0 := Option.some.inj (hv233_0.symm.trans hx233_0)
             rw [hv233_0] at ge233_0
             have HL233_0 := Aside0.mk (show Kd.R (Kd.int .i64) 3 _ _ _ _ (rd_L3 x6_2 x50_3) from ge233_0)
             clear hv233_0 ge233_0
             clear hcc233 hce233
             have HR233_0 := Aside0.mk hi233_0
             have HC233_0 := Aside0.mk hl233_0
             clear hi233_0 hl233_0
             replace p233 := eq_true p233
             replace q233 := eq_true q233
             go_wp2
             go_loopg [10, 56] k3 (fun kq v10 v56 w' => ∃ (x10_4 : Int) (x56_4 : Int), v10 = .int .i64 x10_4 ∧ v56 = .int .i64 x56_4 ∧ Aside0 (plait_Meanders.l2 kq a1 x6_2 x10_4 (rd_L3 x6_2 x50_3) x6_2 (x6_2.length : Int) x50_3 x6_2 (x6_2.length : Int) x56_4 = some (r1, r2)) ∧ Aside0 (kq ≤ k3) ∧ Aside0 (Kd.S (Kd.slice 3 (Kd.int .i64)) 22 w' w.heap.size (fun _ => True) (.slice (some ad233) x6_2.length co14) x6_2) ∧ Aside0 (Kd.S (Kd.slice 3 (Kd.int .i64)) 22 w' w.heap.size (fun _ => True) (.slice (some ad233) x6_2.length co14) x6_2) ∧ Aside0 (Kd.S (Kd.slice 3 (Kd.int .i64)) 22 w' w.heap.size (fun _ => True) (.slice (some ad233) x6_2.length co14) x6_2) ∧ Aside0 (Kd.C (Kd.int .i64) w' A233_0 (rd_L3 x6_2 x50_3).length (rd_L3 x6_2 x50_3)) ∧ Aside0 (Below w.heap.size w w'))
             case atStart => exact ⟨(x10_3), (0), (by first | rfl | (simp; done) | (simp [*]; done)), (by first | rfl | (simp; done) | (simp [*]; done)), H', ⟨Nat.le_refl _⟩, ⟨by (with_reducible repeat (first | apply Kd.S_alloc | apply Kd.S_drewN | apply Kd.S_drew)); exact HO_6.out⟩, ⟨by (with_reducible repeat (first | apply Kd.S_alloc | apply Kd.S_drewN | apply Kd.S_drew)); exact HO_48.out⟩, ⟨by (with_reducible repeat (first | apply Kd.S_alloc | apply Kd.S_drewN | apply Kd.S_drew)); exact HO_6.out⟩, ⟨by repeat (first | (with_reducible exact HR233_0.out) | (with_reducible refine Kd.C_alloc ?_ _) | (with_reducible refine Kd.C_drewN ?_ _) | (with_reducible refine Kd.C_drew ?_) | exact HR233_0.out)⟩, ⟨by repeat (first | (with_reducible first | exact HB.out | apply below_alloc | apply pw_below_drewN | apply below_drew1) | exact HB.out)⟩⟩
             case round =>
              clear H'
              try clear c1
              try clear c2
              try clear p2
              try clear q2
              try clear hx2
              try clear c4
              try clear c4b0
              try clear c5
              try clear c5b0
              try clear c6
              try clear c6b0
              try clear c7
              try clear c10
              try clear c10b0
              try clear c10b1
              try clear c10b2
              try clear c13
              try clear c13b0
              try clear c13b1
              try clear c15
              try clear c15b0
              try clear c16
              try clear c16b0
              try clear c17
              try clear c17b0
              try clear hx233_0
              try clear p2
              try clear p233
              try clear q233
              obtain ⟨x10_4, x56_4, rfl, rfl, HA, HK4, HO_6, HO_48, HO_54, HR233_0, HB⟩ := hrel
              cases gk with
              | zero => exact absurd HA.out (by simp [plait_Meanders.l2])
              | succ k4 =>
               have H := HA.out
               clear HA
               simp only [plait_Meanders.l2] at H
               by_cases c18 : x56_4 < (x6_2.length : Int)
               ·rw [if_pos c18] at H
                have c18b0 : decide (x56_4 < (x6_2.length : Int)) = true := decide_eq_true c18
                clear c18
                by_cases c19 : 0 ≤ x56_4
                ·rw [if_pos c19] at H
                 have c19b0 : decide (0 ≤ x56_4) = true := decide_eq_true c19
                 clear c19
                 by_cases c20 : x56_4 < (x6_2.length : Int)
                 ·rw [if_pos c20] at H
                  have c20b0 : decide (x56_4 < (x6_2.length : Int)) = true := decide_eq_true c20
                  clear c20
                  replace H := Option.bind_eq_some_iff.mp H
                  obtain ⟨t235, A210, H⟩ := H
                  replace H : (if t235 = a1 then (plait_Meanders.l2 k4 a1 x6_2 (wrap64 (x10_4 + 1)) (rd_L3 x6_2 x50_3) x6_2 (x6_2.length : Int) x50_3 x6_2 (x6_2.length : Int) (wrap64 (x56_4 + 1))) else (plait_Meanders.l2 k4 a1 x6_2 x10_4 (rd_L3 x6_2 x50_3) x6_2 (x6_2.length : Int) x50_3 x6_2 (x6_2.length : Int) (wrap64 (x56_4 + 1)))) = some (r1, r2) := H
                  have A21 := Aside0.mk A210
                  clear A210
                  by_cases c22 : t235 = a1
                  ·rw [if_pos c22] at H
                   have c22b0 : (t235 == a1) = true := beq_iff_eq.mpr c22
                   have c22b1 : (t235 != a1) = false := bne_eq_false_iff_eq.mpr c22
                   clear c22
                   have H' := Aside0.mk H
                   clear H
                   have p234 : 0 ≤ (x56_4 : Int) := of_decide_eq_true (by first | (with_reducible assumption) | assumption)
                   have q234 : x56_4 < (x6_2.length : Int) := of_decide_eq_true (by first | (with_reducible assumption) | assumption)
                   obtain ⟨ad234, A234_0, c234_0, e234, hx234_0, hl234_0, hi234_0⟩ := at_L3 (Kd.S_reads' HO_54.out).2.2 x56_4 p234 q234
                   obtain rfl : ad233 = ad234 := (by injection e234)
                   obtain ⟨ce234, hce234, hMe234, hcc234⟩ := Kd.S_get HO_54.out [] x56_4 p234 (by first | exact q234 | exact of_decide_eq_true (by first | (with_reducible assumption) | assumption) | (have e_ := (Kd.S_reads' HO_54.out).1; omega))
                   obtain ⟨ve234_0, rfl, ge234_0⟩ := hMe234
                   have hv234_0 := hcc234 0 _ rfl
                   rw [Nat.add_zero, show ((Kd.slice 3 (Kd.int .i64))).sz = 1 from rfl, Nat.mul_one] at hv234_0
                   replace hv234_0 := Option.some.inj (hv234_0.symm.trans hx234_0)
                   rw [hv234_0] at ge234_0
                   have HL234_0 := Aside0.mk (show Kd.R (Kd.int .i64) 3 _ _ _ _ (rd_L3 x6_2 x56_4) from ge234_0)
                   clear hv234_0 ge234_0
                   clear hcc234 hce234
                   have HR234_0 := Aside0.mk hi234_0
                   have HC234_0 := Aside0.mk hl234_0
                   clear hi234_0 hl234_0
                   replace p234 := eq_true p234
                   replace q234 := eq_true q234
                   go_wp2_with (first | ((with_reducible refine gate_callee (f := 62) rfl ?_); refine goesL_ (some 62) rfl rfl Try.func62 (by kernel_rfl) rfl #[.slice A233_0 (rd_L3 x6_2 x50_3).length c233_0, .slice A234_0 (rd_L3 x6_2 x56_4).length c234_0] rfl (by (try simp only [List.map_toArray, List.map_cons, List.map_nil]); first | done | rfl | (simp only [List.length_drop, List.length_take]; rfl)) ?_; (with_reducible refine (plait_roads.calls k4 _ _ (rd_L3 x6_2 x50_3) _ _ (rd_L3 x6_2 x56_4) t235 _ ?side1 ?side2 ?side3 ?side4 A21.out).mono ?_); (case side1 => repeat (first | exact HR233_0.out | exact (Kd.C_below HR233_0.out HB.out) | (with_reducible refine Kd.C_alloc ?_ _) | (with_reducible refine Kd.C_drewN ?_ _) | (with_reducible refine Kd.C_drew ?_))); (case side2 => exact HC233_0.out); (case side3 => repeat (first | exact (by repeat (first | (with_reducible exact HR234_0.out) | (with_reducible refine Kd.C_alloc ?_ _) | (with_reducible refine Kd.C_drewN ?_ _) | (with_reducible refine Kd.C_drew ?_) | exact HR234_0.out)) | (with_reducible refine Kd.C_alloc ?_ _) | (with_reducible refine Kd.C_drewN ?_ _) | (with_reducible refine Kd.C_drew ?_))); (case side4 => exact HC234_0.out); rintro e w23 ⟨rfl, hb⟩; refine ⟨_, rfl, ?_⟩; have n0_ := Aside0.mk (Kd.S_below (by (with_reducible repeat (first | apply Kd.S_alloc | apply Kd.S_drewN | apply Kd.S_drew)); exact HO_6.out) hb); have n1_ := Aside0.mk (Kd.S_below (by (with_reducible repeat (first | apply Kd.S_alloc | apply Kd.S_drewN | apply Kd.S_drew)); exact HO_48.out) hb); have n2_ := Aside0.mk (Kd.S_below (by (with_reducible repeat (first | apply Kd.S_alloc | apply Kd.S_drewN | apply Kd.S_drew)); exact HO_54.out) hb); have n3_ := Aside0.mk (Kd.R_below (by (with_reducible repeat (first | apply Kd.R_alloc | apply Kd.R_drewN | apply Kd.R_drew)); exact HL234_0.out) hb); have n4_ := Aside0.mk (Kd.C_below (by repeat (first | (with_reducible exact HR233_0.out) | (with_reducible refine Kd.C_alloc ?_ _) | (with_reducible refine Kd.C_drewN ?_ _) | (with_reducible refine Kd.C_drew ?_) | exact HR233_0.out)) hb); have n5_ := Aside0.mk (Kd.C_below (by repeat (first | (with_reducible exact HR234_0.out) | (with_reducible refine Kd.C_alloc ?_ _) | (with_reducible refine Kd.C_drewN ?_ _) | (with_reducible refine Kd.C_drew ?_) | exact HR234_0.out)) hb); have n6_ := Aside0.mk (below_step (by repeat (first | (with_reducible first | exact HB.out | apply below_alloc | apply pw_below_drewN | apply below_drew1) | exact HB.out)) hb); clear HO_6; clear HO_48; clear HO_54; clear HL234_0; clear HR233_0; clear HR234_0; clear HB; have HO_6 := n0_; have HO_48 := n1_; have HO_54 := n2_; have HL234_0 := n3_; have HR233_0 := n4_; have HR234_0 := n5_; have HB := n6_; clear n0_ n1_ n2_ n3_ n4_ n5_ n6_; (try clear hb); (try clear hb2); (try clear hk); (try clear hi)))
                   go_roundg k4
                   case measure => have := HJ2.out; have := HK2.out; have := HK3.out; have := HK4.out; omega
                   case rel => exact ⟨(wrap64 (x10_4 + 1)), (wrap64 (x56_4 + 1)), (by first | rfl | (simp; done) | (simp [*]; done)), (by first | rfl | (simp; done) | (simp [*]; done)), H', ⟨by have := HJ2.out; have := HK2.out; have := HK3.out; have := HK4.out; omega⟩, ⟨by (with_reducible repeat (first | apply Kd.S_alloc | apply Kd.S_drewN | apply Kd.S_drew)); exact HO_6.out⟩, ⟨by (with_reducible repeat (first | apply Kd.S_alloc | apply Kd.S_drewN | apply Kd.S_drew)); exact HO_48.out⟩, ⟨by (with_reducible repeat (first | apply Kd.S_alloc | apply Kd.S_drewN | apply Kd.S_drew)); exact HO_54.out⟩, ⟨by repeat (first | (with_reducible exact HR233_0.out) | (with_reducible refine Kd.C_alloc ?_ _) | (with_reducible refine Kd.C_drewN ?_ _) | (with_reducible refine Kd.C_drew ?_) | exact HR233_0.out)⟩, ⟨by repeat (first | (with_reducible first | exact HB.out | apply below_alloc | apply pw_below_drewN | apply below_drew1) | exact HB.out)⟩⟩
                  ·rw [if_neg c22] at H
                   have c22b0 : (t235 == a1) = false := beq_eq_false_iff_ne.mpr c22
                   have c22b1 : (t235 != a1) = true := bne_iff_ne.mpr c22
                   have H' := Aside0.mk H
                   clear H
                   have p234 : 0 ≤ (x56_4 : Int) := of_decide_eq_true (by first | (with_reducible assumption) | assumption)
                   have q234 : x56_4 < (x6_2.length : Int) := of_decide_eq_true (by first | (with_reducible assumption) | assumption)
                   obtain ⟨ad234, A234_0, c234_0, e234, hx234_0, hl234_0, hi234_0⟩ := at_L3 (Kd.S_reads' HO_54.out).2.2 x56_4 p234 q234
                   obtain rfl : ad233 = ad234 := (by injection e234)
                   obtain ⟨ce234, hce234, hMe234, hcc234⟩ := Kd.S_get HO_54.out [] x56_4 p234 (by first | exact q234 | exact of_decide_eq_true (by first | (with_reducible assumption) | assumption) | (have e_ := (Kd.S_reads' HO_54.out).1; omega))
                   obtain ⟨ve234_0, rfl, ge234_0⟩ := hMe234
                   have hv234_0 := hcc234 0 _ rfl
                   rw [Nat.add_zero, show ((Kd.slice 3 (Kd.int .i64))).sz = 1 from rfl, Nat.mul_one] at hv234_0
                   replace hv234_0 := Option.some.inj (hv234_0.symm.trans hx234_0)
                   rw [hv234_0] at ge234_0
                   have HL234_0 := Aside0.mk (show Kd.R (Kd.int .i64) 3 _ _ _ _ (rd_L3 x6_2 x56_4) from ge234_0)
                   clear hv234_0 ge234_0
                   clear hcc234 hce234
                   have HR234_0 := Aside0.mk hi234_0
                   have HC234_0 := Aside0.mk hl234_0
                   clear hi234_0 hl234_0
                   replace p234 := eq_true p234
                   replace q234 := eq_true q234
                   go_wp2_with (first | ((with_reducible refine gate_callee (f := 62) rfl ?_); refine goesL_ (some 62) rfl rfl Try.func62 (by kernel_rfl) rfl #[.slice A233_0 (rd_L3 x6_2 x50_3).length c233_0, .slice A234_0 (rd_L3 x6_2 x56_4).length c234_0] rfl (by (try simp only [List.map_toArray, List.map_cons, List.map_nil]); first | done | rfl | (simp only [List.length_drop, List.length_take]; rfl)) ?_; (with_reducible refine (plait_roads.calls k4 _ _ (rd_L3 x6_2 x50_3) _ _ (rd_L3 x6_2 x56_4) t235 _ ?side1 ?side2 ?side3 ?side4 A21.out).mono ?_); (case side1 => repeat (first | exact HR233_0.out | exact (Kd.C_below HR233_0.out HB.out) | (with_reducible refine Kd.C_alloc ?_ _) | (with_reducible refine Kd.C_drewN ?_ _) | (with_reducible refine Kd.C_drew ?_))); (case side2 => exact HC233_0.out); (case side3 => repeat (first | exact (by repeat (first | (with_reducible exact HR234_0.out) | (with_reducible refine Kd.C_alloc ?_ _) | (with_reducible refine Kd.C_drewN ?_ _) | (with_reducible refine Kd.C_drew ?_) | exact HR234_0.out)) | (with_reducible refine Kd.C_alloc ?_ _) | (with_reducible refine Kd.C_drewN ?_ _) | (with_reducible refine Kd.C_drew ?_))); (case side4 => exact HC234_0.out); rintro e w24 ⟨rfl, hb⟩; refine ⟨_, rfl, ?_⟩; have n0_ := Aside0.mk (Kd.S_below (by (with_reducible repeat (first | apply Kd.S_alloc | apply Kd.S_drewN | apply Kd.S_drew)); exact HO_6.out) hb); have n1_ := Aside0.mk (Kd.S_below (by (with_reducible repeat (first | apply Kd.S_alloc | apply Kd.S_drewN | apply Kd.S_drew)); exact HO_48.out) hb); have n2_ := Aside0.mk (Kd.S_below (by (with_reducible repeat (first | apply Kd.S_alloc | apply Kd.S_drewN | apply Kd.S_drew)); exact HO_54.out) hb); have n3_ := Aside0.mk (Kd.R_below (by (with_reducible repeat (first | apply Kd.R_alloc | apply Kd.R_drewN | apply Kd.R_drew)); exact HL234_0.out) hb); have n4_ := Aside0.mk (Kd.C_below (by repeat (first | (with_reducible exact HR233_0.out) | (with_reducible refine Kd.C_alloc ?_ _) | (with_reducible refine Kd.C_drewN ?_ _) | (with_reducible refine Kd.C_drew ?_) | exact HR233_0.out)) hb); have n5_ := Aside0.mk (Kd.C_below (by repeat (first | (with_reducible exact HR234_0.out) | (with_reducible refine Kd.C_alloc ?_ _) | (with_reducible refine Kd.C_drewN ?_ _) | (with_reducible refine Kd.C_drew ?_) | exact HR234_0.out)) hb); have n6_ := Aside0.mk (below_step (by repeat (first | (with_reducible first | exact HB.out | apply below_alloc | apply pw_below_drewN | apply below_drew1) | exact HB.out)) hb); clear HO_6; clear HO_48; clear HO_54; clear HL234_0; clear HR233_0; clear HR234_0; clear HB; have HO_6 := n0_; have HO_48 := n1_; have HO_54 := n2_; have HL234_0 := n3_; have HR233_0 := n4_; have HR234_0 := n5_; have HB := n6_; clear n0_ n1_ n2_ n3_ n4_ n5_ n6_; (try clear hb); (try clear hb2); (try clear hk); (try clear hi)))
                   go_roundg k4
                   case measure => have := HJ2.out; have := HK2.out; have := HK3.out; have := HK4.out; omega
                   case rel => exact ⟨(x10_4), (wrap64 (x56_4 + 1)), (by first | rfl | (simp; done) | (simp [*]; done)), (by first | rfl | (simp; done) | (simp [*]; done)), H', ⟨by have := HJ2.out; have := HK2.out; have := HK3.out; have := HK4.out; omega⟩, ⟨by (with_reducible repeat (first | apply Kd.S_alloc | apply Kd.S_drewN | apply Kd.S_drew)); exact HO_6.out⟩, ⟨by (with_reducible repeat (first | apply Kd.S_alloc | apply Kd.S_drewN | apply Kd.S_drew)); exact HO_48.out⟩, ⟨by (with_reducible repeat (first | apply Kd.S_alloc | apply Kd.S_drewN | apply Kd.S_drew)); exact HO_54.out⟩, ⟨by repeat (first | (with_reducible exact HR233_0.out) | (with_reducible refine Kd.C_alloc ?_ _) | (with_reducible refine Kd.C_drewN ?_ _) | (with_reducible refine Kd.C_drew ?_) | exact HR233_0.out)⟩, ⟨by repeat (first | (with_reducible first | exact HB.out | apply below_alloc | apply pw_below_drewN | apply below_drew1) | exact HB.out)⟩⟩
                 ·rw [if_neg c20] at H
                  exact absurd H (by simp)
                ·rw [if_neg c19] at H
                 exact absurd H (by simp)
               ·rw [if_neg c18] at H
                have c18b0 : decide (x56_4 < (x6_2.length : Int)) = false := decide_eq_false c18
                clear c18
                have H' := Aside0.mk H
                clear H
                go_wp2
                go_roundg k4
                case measure => have := HJ2.out; have := HK2.out; have := HK3.out; have := HK4.out; omega
                case rel => exact ⟨(x10_4), (wrap64 (x50_3 + 1)), (by first | rfl | (simp; done) | (simp [*]; done)), (by first | rfl | (simp; done) | (simp [*]; done)), H', ⟨by have := HJ2.out; have := HK2.out; have := HK3.out; have := HK4.out; omega⟩, ⟨by (with_reducible repeat (first | apply Kd.S_alloc | apply Kd.S_drewN | apply Kd.S_drew)); exact HO_6.out⟩, ⟨by (with_reducible repeat (first | apply Kd.S_alloc | apply Kd.S_drewN | apply Kd.S_drew)); exact HO_48.out⟩, ⟨by repeat (first | (with_reducible first | exact HB.out | apply below_alloc | apply pw_below_drewN | apply below_drew1) | exact HB.out)⟩⟩
            ·rw [if_neg c17] at H
             exact absurd H (by simp)
           ·rw [if_neg c16] at H
            exact absurd H (by simp)
          ·rw [if_neg c15] at H
           have c15b0 : decide (x50_3 < (x6_2.length : Int)) = false := decide_eq_false c15
           clear c15
           simp only [Option.some.injEq, Prod.mk.injEq] at H
           obtain ⟨rfl, rfl⟩ := H
           go_wp2
           go_ret2
           exact ⟨by first | rfl | (simp [errW_none, errW_some] <;> rfl) | (simp [*, errW_none, errW_some] <;> rfl), by repeat (first | (with_reducible first | exact HB.out | apply below_alloc | apply pw_below_drewN | apply below_drew1) | exact HB.out)⟩
       ·rw [if_neg c13] at H
        have c13b0 : (x7_2.toList == ([] : List UInt8)) = false := beq_eq_false_iff_ne.mpr c13
        have c13b1 : (x7_2.toList != ([] : List UInt8)) = true := bne_iff_ne.mpr c13
        replace H := Option.bind_eq_some_iff.mp H
        obtain ⟨⟨t225, t226⟩, A250, H⟩ := H
        replace H : (if x6_2.length < 5864062014805 then ((plait_next.f k2 x7_2).bind fun t232 => (plait_Meanders.l0 k2 a1 (x6_2 ++ [t225]) t232)) else (none)) = some (r1, r2) := H
        have A25 := Aside0.mk A250
        clear A250
        by_cases c26 : x6_2.length < 5864062014805
        ·rw [if_pos c26] at H
         have LMc26 := Aside0.mk c26
         clear c26
         obtain ⟨y229, hy229⟩ : ∃ y_ : List (List Int), y_ = (x6_2 ++ [t225]) := ⟨_, rfl⟩
         replace H : ((plait_next.f k2 x7_2).bind fun t232 => (plait_Meanders.l0 k2 a1 y229 t232)) = some (r1, r2) := by first | (rw [hy229]; with_reducible exact H) | (have H2_ := (Option.bind_some _ _).symm.trans H; rw [hy229]; with_reducible exact H2_) | (have H2_ := (Option.bind_some _ _).symm.trans H; with_reducible exact H2_) | with_reducible exact H | (rw [hy229]; exact H) | exact H
         have Ny229 := Aside0.mk hy229
         clear hy229
         replace H := Option.bind_eq_some_iff.mp H
         obtain ⟨t232, A270, H⟩ := H
         replace H : (plait_Meanders.l0 k2 a1 y229 t232) = some (r1, r2) := H
         have A27 := Aside0.mk A270
         clear A270
         have H' := Aside0.mk H
         clear H
         go_wp2_with (first | ((with_reducible refine gate_callee (f := 61) rfl ?_); refine goesL_ (some 41) rfl rfl Try.func61 (by kernel_rfl) rfl #[.string x7_2] rfl (by (try simp only [List.map_toArray, List.map_cons, List.map_nil]); first | done | rfl | (simp only [List.length_drop, List.length_take]; rfl)) ?_; (with_reducible refine (plait_partners.calls k2 x7_2 t225 t226 _ A25.out).mono ?_); rintro e w28 ⟨v227, rfl, ho0, hb⟩; refine ⟨_, rfl, ?_⟩; have n0_ := Aside0.mk (Kd.S_elder' (by (with_reducible repeat (first | apply Kd.S_alloc | apply Kd.S_drewN | apply Kd.S_drew)); exact HO_6.out) (Kd.R_base ho0) hb); have n1_ := Aside0.mk (Kd.R_lower ho0 (below_size (by repeat (first | (with_reducible first | exact HB.out | apply below_alloc | apply pw_below_drewN | apply below_drew1) | exact HB.out)))); have n2_ := Aside0.mk (below_step (by repeat (first | (with_reducible first | exact HB.out | apply below_alloc | apply pw_below_drewN | apply below_drew1) | exact HB.out)) hb); clear HO_6; clear HB; have HO_6 := n0_; have HO228 := n1_; have HB := n2_; clear n0_ n1_ n2_; (try clear hb); (try clear hb2); (try clear hk); (try clear hi); (try clear ho0); obtain ⟨Ao30, co30, eo30⟩ := Kd.R_slice HO228.out; subst eo30) | ((with_reducible refine gate_builtin (b := .append) (xs := #[.tmp 44, .tmp 46]) rfl ?_); at_builtin; refine Kd.S_append (Kd.slice 3 (Kd.int .i64)) (w0 := w) w.heap.size rfl (.tmp 44) (.tmp 46) 62 22 (.slice none 0 0) 24 rfl Try.underlying62 info22 rfl (by decide) (by omega) u6 x6_2 t225 [.slice Ao30 t225.length co30] (fun _ => True) (fun k_ => some k_ = (.slice Ao30 t225.length co30 : Value).ownBlock) rfl rfl ?aP (fun k_ hk_ => ((Kd.R_mono (ok' := fun k_ => ((fun _ => True)) k_ ∧ some k_ ≠ (u6 : Value).ownBlock) (Kd.R_apart' (HO228.out) (Kd.S_typed HO_6.out) (by decide)) (fun k_ hk => ⟨trivial, hk.2⟩))).1 k_ hk_.symm) ?aF ?aO ?aB ?aS ?aL ?_; (case aP => exact Kd.M_row (Kd.R_mono (Kd.R_tight rfl (Kd.R_mono (ok' := fun k_ => ((fun _ => True)) k_ ∧ some k_ ≠ (u6 : Value).ownBlock) (Kd.R_apart' (HO228.out) (Kd.S_typed HO_6.out) (by decide)) (fun k_ hk => ⟨trivial, hk.2⟩))) (fun _ h_ => h_))); (case aB => exact (by repeat (first | (with_reducible first | exact HB.out | apply below_alloc | apply pw_below_drewN | apply below_drew1) | exact HB.out))); (case aF => exact (fun _ _ => trivial)); (case aO => exact (by (with_reducible repeat (first | apply Kd.S_alloc | apply Kd.S_drewN | apply Kd.S_drew)); exact Kd.S_mono HO_6.out (fun k_ hk => ⟨trivial, fun e_ => hk.2 e_⟩))); (case aS => exact (below_size (by repeat (first | (with_reducible first | exact HB.out | apply below_alloc | apply pw_below_drewN | apply below_drew1) | exact HB.out)))); (case aL => have := LMc26.out; omega); intro v230 w29 ho hb hg hat; rw [← Ny229.out] at ho; have n0_ := Aside0.mk (hb); have n1_ := Aside0.mk (ho); clear HB; clear HO_6; clear HO228; have HB := n0_; have HO231 := n1_; clear n0_ n1_; clear ho hb hg hat) | ((with_reducible refine gate_callee (f := 60) rfl ?_); refine goesL_ (some 38) rfl rfl Try.func60 (by kernel_rfl) rfl #[.string x7_2] rfl (by (try simp only [List.map_toArray, List.map_cons, List.map_nil]); first | done | rfl | (simp only [List.length_drop, List.length_take]; rfl)) ?_; (with_reducible refine (plait_next.calls k2 x7_2 t232 _ A27.out).mono ?_); rintro e w31 ⟨rfl, hb⟩; refine ⟨_, rfl, ?_⟩; have n0_ := Aside0.mk (Kd.S_below (by (with_reducible repeat (first | apply Kd.S_alloc | apply Kd.S_drewN | apply Kd.S_drew)); exact HO231.out) hb); have n1_ := Aside0.mk (below_step (by repeat (first | (with_reducible first | exact HB.out | apply below_alloc | apply pw_below_drewN | apply below_drew1) | exact HB.out)) hb); clear HO231; clear HB; have HO231 := n0_; have HB := n1_; clear n0_ n1_; (try clear hb); (try clear hb2); (try clear hk); (try clear hi)))
         go_roundg k2
         case measure => have := HJ2.out; have := HK2.out; omega
         case rel => exact ⟨(y229), (t232), (by first | rfl | (simp; done) | (simp [*]; done)), H', ⟨by have := HJ2.out; have := HK2.out; omega⟩, ⟨by (with_reducible repeat (first | apply Kd.S_alloc | apply Kd.S_drewN | apply Kd.S_drew)); exact HO231.out⟩, ⟨by repeat (first | (with_reducible first | exact HB.out | apply below_alloc | apply pw_below_drewN | apply below_drew1) | exact HB.out)⟩⟩
        ·rw [if_neg c26] at H
         exact absurd H (by simp)
    ·rw [if_neg c10] at H
     exact absurd H (by simp)
end Go.Proofs.Ytjfkompfkgjdaaa.PC
end
section
namespace Go.Proofs.Ytjfkompfkgjdaaa.PC
open Go.RowKit Go.Proofs.YtjfkompfkgjdaaaW.PrintWords Go.Proofs.YtjfkompfkgjdaaaW.PrintLast Go.Proofs.YtjfkompfkgjdaaaW.PrintMore
attribute [local go_sem] max2_int min2_int max_two min_two max_three min_three max_four min_four   -- for this text's walks alone
set_option linter.unusedVariables false
set_option linter.unusedSimpArgs false
/-! ### plait_Product: function 27 -/
attribute [local go_sem] plait_of.val0
def plait_Product.f (k : Nat) (l0 : List Int) (l1 : List Int) : Option (List Int × Int × Int) := (plait_of.f k l0).bind fun t236 => (if t236 = 0 then ((plait_of.f k l1).bind fun t237 => (if t237 = 0 then (if (l0.length : Int) = (l1.length : Int) then ((plait_diagram_product.f l0 l1).bind fun bt238 => (some (bt238.1, bt238.2, 0))) else (some (([] : List Int), 0, 2))) else (some (([] : List Int), 0, t237)))) else (some (([] : List Int), 0, t236)))
theorem plait_Product.mono : ∀ a0 a1 k, LeO (plait_Product.f k a0 a1) (plait_Product.f (k + 1) a0 a1) := by
 intro a0 a1 k
 unfold plait_Product.f
 repeat' first
   | (with_reducible exact plait_of.mono _ _)
   | (with_reducible exact LeO.refl _)
   | (with_reducible exact LeO.none _)
   | (with_reducible refine LeO.ite ?_ ?_)
   | (with_reducible refine LeO.bind ?_ (fun _ => ?_))
   | exact plait_of.mono _ _
   | exact LeO.none _
   | refine LeO.ite ?_ ?_
   | refine LeO.bind ?_ (fun _ => ?_)
set_option maxHeartbeats 8000000 in
set_option maxRecDepth 100000 in
theorem plait_Product.calls (k : Nat) (A0 : Option Addr) (c0 : Nat) (l0 : List Int) (A1 : Option Addr) (c1 : Nat) (l1 : List Int) (r1 : List Int) (r2 : Int) (r3 : Int) (w : World) (hr0 : Kd.C (Kd.int .i64) w A0 l0.length l0) (hc0 : l0.length ≤ c0) (hr1 : Kd.C (Kd.int .i64) w A1 l1.length l1) (hc1 : l1.length ≤ c1) (h : plait_Product.f k l0 l1 = some (r1, r2, r3)) :
  Calls Try.prog 27 #[.slice A0 l0.length c0, .slice A1 l1.length c1] w fun e w' => ∃ v0_ : Value, e = .returned (.tuple #[v0_, .int .i64 r2, .int .i64 r3]) ∧ Kd.R (Kd.int .i64) 3 w' w.heap.size (fun _ => True) v0_ r1 ∧ Below w.heap.size w w' := by
 have HR0 := Aside0.mk hr0
 have HC0 := Aside0.mk hc0
 clear hr0 hc0
 have HR1 := Aside0.mk hr1
 have HC1 := Aside0.mk hc1
 clear hr1 hc1
 have HB := Aside0.mk (Below.refl w.heap.size w)
 have H : ((plait_of.f k l0).bind fun t236 => (if t236 = 0 then ((plait_of.f k l1).bind fun t237 => (if t237 = 0 then (if (l0.length : Int) = (l1.length : Int) then ((plait_diagram_product.f l0 l1).bind fun bt238 => (some (bt238.1, bt238.2, 0))) else (some (([] : List Int), 0, 2))) else (some (([] : List Int), 0, t237)))) else (some (([] : List Int), 0, t236)))) = some (r1, r2, r3) := h
 clear h
 replace H := Option.bind_eq_some_iff.mp H
 obtain ⟨t236, A30, H⟩ := H
 replace H : (if t236 = 0 then ((plait_of.f k l1).bind fun t237 => (if t237 = 0 then (if (l0.length : Int) = (l1.length : Int) then ((plait_diagram_product.f l0 l1).bind fun bt238 => (some (bt238.1, bt238.2, 0))) else (some (([] : List Int), 0, 2))) else (some (([] : List Int), 0, t237)))) else (some (([] : List Int), 0, t236))) = some (r1, r2, r3) := H
 have A3 := Aside0.mk A30
 clear A30
 by_cases c4 : t236 = 0
 ·rw [if_pos c4] at H
  have c4b0 : (t236 == 0) = true := beq_iff_eq.mpr c4
  have c4b1 : (t236 != 0) = false := bne_eq_false_iff_eq.mpr c4
  clear c4
  replace H := Option.bind_eq_some_iff.mp H
  obtain ⟨t237, A50, H⟩ := H
  replace H : (if t237 = 0 then (if (l0.length : Int) = (l1.length : Int) then ((plait_diagram_product.f l0 l1).bind fun bt238 => (some (bt238.1, bt238.2, 0))) else (some (([] : List Int), 0, 2))) else (some (([] : List Int), 0, t237))) = some (r1, r2, r3) := H
  have A5 := Aside0.mk A50
  clear A50
  by_cases c6 : t237 = 0
  ·rw [if_pos c6] at H
   have c6b0 : (t237 == 0) = true := beq_iff_eq.mpr c6
   have c6b1 : (t237 != 0) = false := bne_eq_false_iff_eq.mpr c6
   clear c6
   by_cases c7 : (l0.length : Int) = (l1.length : Int)
   ·rw [if_pos c7] at H
    have c7b0 : ((l0.length : Int) == (l1.length : Int)) = true := beq_iff_eq.mpr c7
    have c7b1 : ((l0.length : Int) != (l1.length : Int)) = false := bne_eq_false_iff_eq.mpr c7
    have c7b2 : (l0.length == l1.length) = true := by first | simpa using c7 | (simp at c7 ⊢; omega)
    clear c7
    replace H := Option.bind_eq_some_iff.mp H
    obtain ⟨⟨t238, t239⟩, A80, H⟩ := H
    replace H : (some (t238, t239, 0)) = some (r1, r2, r3) := H
    have A8 := Aside0.mk A80
    clear A80
    simp only [Option.some.injEq, Prod.mk.injEq] at H
    obtain ⟨rfl, rfl, rfl⟩ := H
    go_enter Try.func27, Try.ntmps27
    go_wp2_with (first | ((with_reducible refine gate_callee (f := 54) rfl ?_); refine goesL_ (some 14) rfl rfl Try.func54 (by kernel_rfl) rfl #[.slice A0 l0.length c0] rfl (by (try simp only [List.map_toArray, List.map_cons, List.map_nil]); first | done | rfl | (simp only [List.length_drop, List.length_take]; rfl)) ?_; (with_reducible refine (plait_of.calls k _ _ l0 t236 _ ?side1 ?side2 A3.out).mono ?_); (case side1 => repeat (first | exact HR0.out | (with_reducible refine Kd.C_alloc ?_ _) | (with_reducible refine Kd.C_drewN ?_ _) | (with_reducible refine Kd.C_drew ?_))); (case side2 => exact HC0.out); rintro e w9 ⟨rfl, hb⟩; refine ⟨_, rfl, ?_⟩; have n0_ := Aside0.mk (below_step (by repeat (first | (with_reducible first | exact HB.out | apply below_alloc | apply pw_below_drewN | apply below_drew1) | exact HB.out)) hb); clear HB; have HB := n0_; clear n0_; (try clear hb); (try clear hb2); (try clear hk); (try clear hi)) | ((with_reducible refine gate_callee (f := 54) rfl ?_); refine goesL_ (some 22) rfl rfl Try.func54 (by kernel_rfl) rfl #[.slice A1 l1.length c1] rfl (by (try simp only [List.map_toArray, List.map_cons, List.map_nil]); first | done | rfl | (simp only [List.length_drop, List.length_take]; rfl)) ?_; (with_reducible refine (plait_of.calls k _ _ l1 t237 _ ?side1 ?side2 A5.out).mono ?_); (case side1 => repeat (first | exact (Kd.C_below HR1.out HB.out) | (with_reducible refine Kd.C_alloc ?_ _) | (with_reducible refine Kd.C_drewN ?_ _) | (with_reducible refine Kd.C_drew ?_))); (case side2 => exact HC1.out); rintro e w10 ⟨rfl, hb⟩; refine ⟨_, rfl, ?_⟩; have n0_ := Aside0.mk (below_step (by repeat (first | (with_reducible first | exact HB.out | apply below_alloc | apply pw_below_drewN | apply below_drew1) | exact HB.out)) hb); clear HB; have HB := n0_; clear n0_; (try clear hb); (try clear hb2); (try clear hk); (try clear hi)) | ((with_reducible refine gate_callee (f := 66) rfl ?_); refine goesL_ (some 38) rfl rfl Try.func66 (by kernel_rfl) rfl #[.slice A0 l0.length c0, .slice A1 l1.length c1] rfl (by (try simp only [List.map_toArray, List.map_cons, List.map_nil]); first | done | rfl | (simp only [List.length_drop, List.length_take]; rfl)) ?_; (with_reducible refine (plait_diagram_product.calls _ _ l0 _ _ l1 t238 t239 _ ?side1 ?side2 ?side3 ?side4 A8.out).mono ?_); (case side1 => repeat (first | exact (Kd.C_below HR0.out HB.out) | (with_reducible refine Kd.C_alloc ?_ _) | (with_reducible refine Kd.C_drewN ?_ _) | (with_reducible refine Kd.C_drew ?_))); (case side2 => exact HC0.out); (case side3 => repeat (first | exact (Kd.C_below HR1.out HB.out) | (with_reducible refine Kd.C_alloc ?_ _) | (with_reducible refine Kd.C_drewN ?_ _) | (with_reducible refine Kd.C_drew ?_))); (case side4 => exact HC1.out); rintro e w11 ⟨v240, rfl, ho0, hb⟩; refine ⟨_, rfl, ?_⟩; have n0_ := Aside0.mk (Kd.R_lower ho0 (below_size (by repeat (first | (with_reducible first | exact HB.out | apply below_alloc | apply pw_below_drewN | apply below_drew1) | exact HB.out)))); have n1_ := Aside0.mk (below_step (by repeat (first | (with_reducible first | exact HB.out | apply below_alloc | apply pw_below_drewN | apply below_drew1) | exact HB.out)) hb); clear HB; have HO241 := n0_; have HB := n1_; clear n0_ n1_; (try clear hb); (try clear hb2); (try clear hk); (try clear hi); (try clear ho0)))
    go_ret3
    exact ⟨_, by first | rfl | (simp [errW_none, errW_some] <;> rfl) | (simp [*, errW_none, errW_some] <;> rfl), by (with_reducible repeat (first | apply Kd.R_alloc | apply Kd.R_drewN | apply Kd.R_drew)); exact HO241.out, by repeat (first | (with_reducible first | exact HB.out | apply below_alloc | apply pw_below_drewN | apply below_drew1) | exact HB.out)⟩
   ·rw [if_neg c7] at H
    have c7b0 : ((l0.length : Int) == (l1.length : Int)) = false := beq_eq_false_iff_ne.mpr c7
    have c7b1 : ((l0.length : Int) != (l1.length : Int)) = true := bne_iff_ne.mpr c7
    have c7b2 : (l0.length == l1.length) = false := by first | simpa using c7 | (simp at c7 ⊢; omega)
    simp only [Option.some.injEq, Prod.mk.injEq] at H
    obtain ⟨rfl, rfl, rfl⟩ := H
    go_enter Try.func27, Try.ntmps27
    go_wp2_with (first | ((with_reducible refine gate_callee (f := 54) rfl ?_); refine goesL_ (some 14) rfl rfl Try.func54 (by kernel_rfl) rfl #[.slice A0 l0.length c0] rfl (by (try simp only [List.map_toArray, List.map_cons, List.map_nil]); first | done | rfl | (simp only [List.length_drop, List.length_take]; rfl)) ?_; (with_reducible refine (plait_of.calls k _ _ l0 t236 _ ?side1 ?side2 A3.out).mono ?_); (case side1 => repeat (first | exact HR0.out | (with_reducible refine Kd.C_alloc ?_ _) | (with_reducible refine Kd.C_drewN ?_ _) | (with_reducible refine Kd.C_drew ?_))); (case side2 => exact HC0.out); rintro e w12 ⟨rfl, hb⟩; refine ⟨_, rfl, ?_⟩; have n0_ := Aside0.mk (below_step (by repeat (first | (with_reducible first | exact HB.out | apply below_alloc | apply pw_below_drewN | apply below_drew1) | exact HB.out)) hb); clear HB; have HB := n0_; clear n0_; (try clear hb); (try clear hb2); (try clear hk); (try clear hi)) | ((with_reducible refine gate_callee (f := 54) rfl ?_); refine goesL_ (some 22) rfl rfl Try.func54 (by kernel_rfl) rfl #[.slice A1 l1.length c1] rfl (by (try simp only [List.map_toArray, List.map_cons, List.map_nil]); first | done | rfl | (simp only [List.length_drop, List.length_take]; rfl)) ?_; (with_reducible refine (plait_of.calls k _ _ l1 t237 _ ?side1 ?side2 A5.out).mono ?_); (case side1 => repeat (first | exact (Kd.C_below HR1.out HB.out) | (with_reducible refine Kd.C_alloc ?_ _) | (with_reducible refine Kd.C_drewN ?_ _) | (with_reducible refine Kd.C_drew ?_))); (case side2 => exact HC1.out); rintro e w13 ⟨rfl, hb⟩; refine ⟨_, rfl, ?_⟩; have n0_ := Aside0.mk (below_step (by repeat (first | (with_reducible first | exact HB.out | apply below_alloc | apply pw_below_drewN | apply below_drew1) | exact HB.out)) hb); clear HB; have HB := n0_; clear n0_; (try clear hb); (try clear hb2); (try clear hk); (try clear hi)))
    go_ret3
    exact ⟨_, by first | rfl | (simp [errW_none, errW_some] <;> rfl) | (simp [*, errW_none, errW_some] <;> rfl), by first | exact Kd.R_nil _ _ _ _ _ | exact Kd.N_nil _ _ _ _ _ | exact Kd.V_nil _ _ _ _ _ | exact Kd.Q_nil _ _ _ _ _ | exact Kd.S_nil _ _ _ _ _, by repeat (first | (with_reducible first | exact HB.out | apply below_alloc | apply pw_below_drewN | apply below_drew1) | exact HB.out)⟩
  ·rw [if_neg c6] at H
   have c6b0 : (t237 == 0) = false := beq_eq_false_iff_ne.mpr c6
   have c6b1 : (t237 != 0) = true := bne_iff_ne.mpr c6
   simp only [Option.some.injEq, Prod.mk.injEq] at H
   obtain ⟨rfl, rfl, rfl⟩ := H
   go_enter Try.func27, Try.ntmps27
   go_wp2_with (first | ((with_reducible refine gate_callee (f := 54) rfl ?_); refine goesL_ (some 14) rfl rfl Try.func54 (by kernel_rfl) rfl #[.slice A0 l0.length c0] rfl (by (try simp only [List.map_toArray, List.map_cons, List.map_nil]); first | done | rfl | (simp only [List.length_drop, List.length_take]; rfl)) ?_; (with_reducible refine (plait_of.calls k _ _ l0 t236 _ ?side1 ?side2 A3.out).mono ?_); (case side1 => repeat (first | exact HR0.out | (with_reducible refine Kd.C_alloc ?_ _) | (with_reducible refine Kd.C_drewN ?_ _) | (with_reducible refine Kd.C_drew ?_))); (case side2 => exact HC0.out); rintro e w14 ⟨rfl, hb⟩; refine ⟨_, rfl, ?_⟩; have n0_ := Aside0.mk (below_step (by repeat (first | (with_reducible first | exact HB.out | apply below_alloc | apply pw_below_drewN | apply below_drew1) | exact HB.out)) hb); clear HB; have HB := n0_; clear n0_; (try clear hb); (try clear hb2); (try clear hk); (try clear hi)) | ((with_reducible refine gate_callee (f := 54) rfl ?_); refine goesL_ (some 22) rfl rfl Try.func54 (by kernel_rfl) rfl #[.slice A1 l1.length c1] rfl (by (try simp only [List.map_toArray, List.map_cons, List.map_nil]); first | done | rfl | (simp only [List.length_drop, List.length_take]; rfl)) ?_; (with_reducible refine (plait_of.calls k _ _ l1 t237 _ ?side1 ?side2 A5.out).mono ?_); (case side1 => repeat (first | exact (Kd.C_below HR1.out HB.out) | (with_reducible refine Kd.C_alloc ?_ _) | (with_reducible refine Kd.C_drewN ?_ _) | (with_reducible refine Kd.C_drew ?_))); (case side2 => exact HC1.out); rintro e w15 ⟨rfl, hb⟩; refine ⟨_, rfl, ?_⟩; have n0_ := Aside0.mk (below_step (by repeat (first | (with_reducible first | exact HB.out | apply below_alloc | apply pw_below_drewN | apply below_drew1) | exact HB.out)) hb); clear HB; have HB := n0_; clear n0_; (try clear hb); (try clear hb2); (try clear hk); (try clear hi)))
   go_ret3
   exact ⟨_, by first | rfl | (simp [errW_none, errW_some] <;> rfl) | (simp [*, errW_none, errW_some] <;> rfl), by first | exact Kd.R_nil _ _ _ _ _ | exact Kd.N_nil _ _ _ _ _ | exact Kd.V_nil _ _ _ _ _ | exact Kd.Q_nil _ _ _ _ _ | exact Kd.S_nil _ _ _ _ _, by repeat (first | (with_reducible first | exact HB.out | apply below_alloc | apply pw_below_drewN | apply below_drew1) | exact HB.out)⟩
 ·rw [if_neg c4] at H
  have c4b0 : (t236 == 0) = false := beq_eq_false_iff_ne.mpr c4
  have c4b1 : (t236 != 0) = true := bne_iff_ne.mpr c4
  simp only [Option.some.injEq, Prod.mk.injEq] at H
  obtain ⟨rfl, rfl, rfl⟩ := H
  go_enter Try.func27, Try.ntmps27
  go_wp2_with (first | ((with_reducible refine gate_callee (f := 54) rfl ?_); refine goesL_ (some 14) rfl rfl Try.func54 (by kernel_rfl) rfl #[.slice A0 l0.length c0] rfl (by (try simp only [List.map_toArray, List.map_cons, List.map_nil]); first | done | rfl | (simp only [List.length_drop, List.length_take]; rfl)) ?_; (with_reducible refine (plait_of.calls k _ _ l0 t236 _ ?side1 ?side2 A3.out).mono ?_); (case side1 => repeat (first | exact HR0.out | (with_reducible refine Kd.C_alloc ?_ _) | (with_reducible refine Kd.C_drewN ?_ _) | (with_reducible refine Kd.C_drew ?_))); (case side2 => exact HC0.out); rintro e w16 ⟨rfl, hb⟩; refine ⟨_, rfl, ?_⟩; have n0_ := Aside0.mk (below_step (by repeat (first | (with_reducible first | exact HB.out | apply below_alloc | apply pw_below_drewN | apply below_drew1) | exact HB.out)) hb); clear HB; have HB := n0_; clear n0_; (try clear hb); (try clear hb2); (try clear hk); (try clear hi)))
  go_ret3
  exact ⟨_, by first | rfl | (simp [errW_none, errW_some] <;> rfl) | (simp [*, errW_none, errW_some] <;> rfl), by first | exact Kd.R_nil _ _ _ _ _ | exact Kd.N_nil _ _ _ _ _ | exact Kd.V_nil _ _ _ _ _ | exact Kd.Q_nil _ _ _ _ _ | exact Kd.S_nil _ _ _ _ _, by repeat (first | (with_reducible first | exact HB.out | apply below_alloc | apply pw_below_drewN | apply below_drew1) | exact HB.out)⟩
end Go.Proofs.Ytjfkompfkgjdaaa.PC
end
section
namespace Go.Proofs.Ytjfkompfkgjdaaa.PC
open Go.RowKit Go.Proofs.YtjfkompfkgjdaaaW.PrintWords Go.Proofs.YtjfkompfkgjdaaaW.PrintLast Go.Proofs.YtjfkompfkgjdaaaW.PrintMore
attribute [local go_sem] max2_int min2_int max_two min_two max_three min_three max_four min_four   -- for this text's walks alone
set_option linter.unusedVariables false
set_option linter.unusedSimpArgs false
/-! ### pomadelaw07_alive: function 20 -/
/-- the closed example of the chapter: it is so -/
def pomadelaw07_alive.f : Option (Bool) := some true
section
theorem lit_C (W : World) (xs : List Int) (hl : xs.length ≤ 1000) : Kd.C (Kd.int .i64) (W.alloc (.cells (nums .i64 xs).toArray 3)) (some ⟨W.heap.size, 0, none⟩) xs.length xs := by
 have h := own_lit W 0 3 .i64 xs (Nat.zero_le _) (by omega)
 have hR : Kd.R (Kd.int .i64) 3 (W.alloc (.cells (nums .i64 xs).toArray 3)) 0 (fun _ => True) (.slice (some ⟨W.heap.size, 0, none⟩) xs.length xs.length) xs := Kd.R_of_own h (fun _ _ => trivial)
 obtain ⟨A, c, e, _, hC⟩ := Kd.R_reads hR
 injection e with e1 e2 e3
 subst e1
 exact hC
theorem step_below {w w1 w2 : World} (h : Below w.heap.size w w1) (hb : Below w1.heap.size w1 w2) : Below w.heap.size w w2 := h.trans (hb.mono h.size)
theorem lit_C2 (W : World) (xs ys : List Int) (hl : ys.length ≤ 1000) : Kd.C (Kd.int .i64) ((W.alloc (.cells (nums .i64 xs).toArray 3)).alloc (.cells (nums .i64 ys).toArray 3)) (some ⟨W.heap.size + 1, 0, none⟩) ys.length ys := by
 have h := lit_C (W.alloc (.cells (nums .i64 xs).toArray 3)) ys hl
 have e : (W.alloc (.cells (nums .i64 xs).toArray 3)).heap.size = W.heap.size + 1 := by simp
 rw [e] at h
 exact h
theorem alive_h1 (W : World) : Calls Try.prog 27 #[.slice (some ⟨W.heap.size, 0, none⟩) 4 4, .slice (some ⟨W.heap.size + 1, 0, none⟩) 4 4] ((W.alloc (.cells #[.int .i64 1, .int .i64 0, .int .i64 3, .int .i64 2] 3)).alloc (.cells #[.int .i64 1, .int .i64 0, .int .i64 3, .int .i64 2] 3)) fun e w' => ∃ A c, e = .returned (.tuple #[.slice A 4 c, .int .i64 1, .int .i64 0]) ∧ Hid (4 ≤ c ∧ Kd.C (Kd.int .i64) w' A 4 [1, 0, 3, 2]) ∧ Hid (Below W.heap.size W w') :=
 (plait_Product.calls 3000 _ 4 [1, 0, 3, 2] _ 4 [1, 0, 3, 2] [1, 0, 3, 2] 1 0 _ (Kd.C_alloc (lit_C W [1, 0, 3, 2] (by simp)) _) (by simp) (lit_C2 W [1, 0, 3, 2] [1, 0, 3, 2] (by simp)) (by simp) (by decide +kernel)).mono fun e w' ⟨v0, he, hr, hb⟩ => by
  obtain ⟨A, c, rfl, hc, hC⟩ := Kd.R_reads hr
  exact ⟨A, c, he, Lib.hid ⟨hc, hC⟩, Lib.hid ((((Below.refl _ W).alloc (Nat.le_refl _) _).alloc (by simp) _).trans (hb.mono (by simp; omega)))⟩
theorem alive_h2 (W : World) : Calls Try.prog 21 #[.slice (some ⟨W.heap.size, 0, none⟩) 6 6] (W.alloc (.cells #[.int .i64 1, .int .i64 0, .int .i64 5, .int .i64 4, .int .i64 3, .int .i64 2] 3)) fun e w' => ∃ A c, e = .returned (.tuple #[.slice A 1 c, .int .i64 0]) ∧ Hid (1 ≤ c ∧ Kd.C (Kd.int .i64) w' A 1 [0]) ∧ Hid (Below W.heap.size W w') :=
 (plait_Word.calls 3000 _ 6 [1, 0, 5, 4, 3, 2] [0] 0 _ (lit_C W [1, 0, 5, 4, 3, 2] (by simp)) (by simp) (by decide +kernel)).mono fun e w' ⟨v0, he, hr, hb⟩ => by
  obtain ⟨A, c, rfl, hc, hC⟩ := Kd.R_reads hr
  exact ⟨A, c, he, Lib.hid ⟨hc, hC⟩, Lib.hid (((Below.refl _ W).alloc (Nat.le_refl _) _).trans (hb.mono (by simp)))⟩
theorem alive_h3 (W : World) : Calls Try.prog 30 #[.string ⟨#[40, 41, 40, 41]⟩, .string ⟨#[40, 40, 41, 41]⟩] W fun e w' => e = .returned (.tuple #[.int .i64 1, .int .i64 0]) ∧ Hid (Below W.heap.size W w') :=
 (plait_Roads.calls 3000 ⟨#[40, 41, 40, 41]⟩ ⟨#[40, 40, 41, 41]⟩ 1 0 _ (by decide +kernel)).mono fun e w' ⟨he, hb⟩ => ⟨he, Lib.hid hb⟩
theorem alive_h4 (W : World) : Calls Try.prog 24 #[.int .i64 2, .int .i64 2] W fun e w' => e = .returned (.tuple #[.int .i64 2, .int .i64 0]) ∧ Hid (Below W.heap.size W w') :=
 (plait_Meanders.calls 3000 2 2 2 0 _ (by decide +kernel)).mono fun e w' ⟨he, hb⟩ => ⟨he, Lib.hid hb⟩
theorem alive_h5 (W : World) : Calls Try.prog 29 #[.slice (some ⟨W.heap.size, 0, none⟩) 4 4] (W.alloc (.cells #[.int .i64 2, .int .i64 3, .int .i64 0, .int .i64 1] 3)) fun e w' => e = .returned (.tuple #[.int .i64 2, .int .i64 0]) ∧ Hid (Below W.heap.size W w') :=
 (plait_Closed.calls 3000 _ 4 [2, 3, 0, 1] 2 0 _ (lit_C W [2, 3, 0, 1] (by simp)) (by simp) (by decide +kernel)).mono fun e w' ⟨he, hb⟩ => ⟨he, Lib.hid (((Below.refl _ W).alloc (Nat.le_refl _) _).trans (hb.mono (by simp)))⟩
theorem alive_h6 (W : World) (A : Option Addr) (c : Nat) (hc : 4 ≤ c ∧ Kd.C (Kd.int .i64) W A 4 [1, 0, 3, 2]) : Calls Try.prog 23 #[.slice A 4 c, .slice (some ⟨W.heap.size, 0, none⟩) 4 4] (W.alloc (.cells #[.int .i64 1, .int .i64 0, .int .i64 3, .int .i64 2] 3)) fun e w' => e = .returned (.bool true) ∧ Hid (Below W.heap.size W w') :=
 (pomadelaw07_same.calls 100 A c [1, 0, 3, 2] _ 4 [1, 0, 3, 2] true _ (Kd.C_alloc hc.2 _) hc.1 (lit_C W [1, 0, 3, 2] (by simp)) (by simp) (by decide +kernel)).mono fun e w' ⟨he, hb⟩ => ⟨he, Lib.hid (((Below.refl _ W).alloc (Nat.le_refl _) _).trans (hb.below.mono (by simp)))⟩
theorem alive_h7 (W : World) (A : Option Addr) (c : Nat) (hc : 1 ≤ c ∧ Kd.C (Kd.int .i64) W A 1 [0]) : Calls Try.prog 23 #[.slice A 1 c, .slice (some ⟨W.heap.size, 0, none⟩) 1 1] (W.alloc (.cells #[.int .i64 0] 3)) fun e w' => e = .returned (.bool true) ∧ Hid (Below W.heap.size W w') :=
 (pomadelaw07_same.calls 100 A c [0] _ 1 [0] true _ (Kd.C_alloc hc.2 _) hc.1 (lit_C W [0] (by simp)) (by simp) (by decide +kernel)).mono fun e w' ⟨he, hb⟩ => ⟨he, Lib.hid (((Below.refl _ W).alloc (Nat.le_refl _) _).trans (hb.below.mono (by simp)))⟩
set_option maxRecDepth 100000 in
set_option maxHeartbeats 4000000 in
theorem pomadelaw07_alive.calls  (r : Bool) (w : World) (h : pomadelaw07_alive.f  = some r) :
  Calls Try.prog 20 #[] w fun e w' => e = .returned (.bool r) ∧ Below w.heap.size w w' := by
 obtain rfl : r = true := (Option.some.inj h).symm
 clear h
 go_enter Try.func20, Try.ntmps20
 go_wp2_with fail
 refine (alive_h1 _).mono ?_
 rintro e w1 ⟨A1, c1, rfl, C1, B1⟩
 go_wp2_with fail
 refine (alive_h2 _).mono ?_
 rintro e w2 ⟨A2, c2, rfl, C2, B2⟩
 go_wp2_with fail
 refine (alive_h3 _).mono ?_
 rintro e w3 ⟨rfl, B3⟩
 go_wp2_with fail
 refine (alive_h4 _).mono ?_
 rintro e w4 ⟨rfl, B4⟩
 go_wp2_with fail
 refine (alive_h5 _).mono ?_
 rintro e w5 ⟨rfl, B5⟩
 have M25 := Lib.hid (step_below (step_below (step_below B2.out B3.out) B4.out) B5.out)
 go_wp2_with fail
 refine (alive_h6 _ A1 c1 ⟨C1.out.1, Kd.C_below C1.out.2 M25.out⟩).mono ?_
 rintro e w6 ⟨rfl, B6⟩
 have M36 := Lib.hid (step_below (step_below (step_below B3.out B4.out) B5.out) B6.out)
 go_wp2_with fail
 refine (alive_h7 _ A2 c2 ⟨C2.out.1, Kd.C_below C2.out.2 M36.out⟩).mono ?_
 rintro e w7 ⟨rfl, B7⟩
 go_wp2_with fail
 go_ret
 exact ⟨rfl, step_below (step_below (step_below B1.out B2.out) M36.out) B7.out⟩
end
end Go.Proofs.Ytjfkompfkgjdaaa.PC
end
section
namespace Go.Proofs.Ytjfkompfkgjdaaa.PC
open Go.RowKit Go.Proofs.YtjfkompfkgjdaaaW.PrintWords Go.Proofs.YtjfkompfkgjdaaaW.PrintLast Go.Proofs.YtjfkompfkgjdaaaW.PrintMore
attribute [local go_sem] max2_int min2_int max_two min_two max_three min_three max_four min_four   -- for this text's walks alone
set_option linter.unusedVariables false
set_option linter.unusedSimpArgs false
/-! ### pomadelaw07_PlaitWords: function 3 -/
def pomadelaw07_PlaitWords.j0 : Nat → List Int → Bool → Option (Bool)
 | 0, _, _ => none
 | k + 1, x0, x19 => if x19 = true then ((pomadelaw07_alive.f).bind fun t429 => (some t429)) else ((plait_Word.f k x0).bind fun bt430 => ((pomaderef07_Word.f k x0).bind fun bt434 => ((pomadelaw07_same.f k bt430.1 bt434.1).bind fun t438 => (if t438 = true then (if bt430.2 = bt434.2 then ((pomadelaw07_alive.f).bind fun t439 => (some t439)) else (some false)) else (some false)))))
def pomadelaw07_PlaitWords.f (k : Nat) (l0 : List Int) : Option (Bool) := if (l0.length : Int) > 50 then (pomadelaw07_PlaitWords.j0 k l0 true) else (if (l0.length : Int) > 16 then ((pomaderef07_Diagram.f k l0).bind fun t428 => (pomadelaw07_PlaitWords.j0 k l0 (t428 == 0))) else (pomadelaw07_PlaitWords.j0 k l0 false))
theorem pomadelaw07_PlaitWords.mono_l : ∀ k, (∀ y0 y1, LeO (pomadelaw07_PlaitWords.j0 k y0 y1) (pomadelaw07_PlaitWords.j0 (k + 1) y0 y1))
 | 0 => fun _ _ r h => by simp [pomadelaw07_PlaitWords.j0] at h
 | k + 1 => by
  have ih0 := pomadelaw07_PlaitWords.mono_l k
  ·intro y0 y1
   unfold pomadelaw07_PlaitWords.j0
   repeat' first
   | (with_reducible exact ih0 _ _)
   | (with_reducible exact plait_Word.mono _ _)
   | (with_reducible exact pomadelaw07_same.mono _ _ _)
   | (with_reducible exact pomaderef07_Diagram.mono _ _)
   | (with_reducible exact pomaderef07_Word.mono _ _)
   | (with_reducible exact LeO.refl _)
   | (with_reducible exact LeO.none _)
   | (with_reducible refine LeO.ite ?_ ?_)
   | (with_reducible refine LeO.bind ?_ (fun _ => ?_))
   | exact ih0 _ _
   | exact plait_Word.mono _ _
   | exact pomadelaw07_same.mono _ _ _
   | exact pomaderef07_Diagram.mono _ _
   | exact pomaderef07_Word.mono _ _
   | exact LeO.none _
   | refine LeO.ite ?_ ?_
   | refine LeO.bind ?_ (fun _ => ?_)
theorem pomadelaw07_PlaitWords.mono : ∀ a0 k, LeO (pomadelaw07_PlaitWords.f k a0) (pomadelaw07_PlaitWords.f (k + 1) a0) := by
 intro a0 k
 have ih0 := pomadelaw07_PlaitWords.mono_l k
 unfold pomadelaw07_PlaitWords.f
 repeat' first
   | (with_reducible exact ih0 _ _)
   | (with_reducible exact plait_Word.mono _ _)
   | (with_reducible exact pomadelaw07_same.mono _ _ _)
   | (with_reducible exact pomaderef07_Diagram.mono _ _)
   | (with_reducible exact pomaderef07_Word.mono _ _)
   | (with_reducible exact LeO.refl _)
   | (with_reducible exact LeO.none _)
   | (with_reducible refine LeO.ite ?_ ?_)
   | (with_reducible refine LeO.bind ?_ (fun _ => ?_))
   | exact ih0 _ _
   | exact plait_Word.mono _ _
   | exact pomadelaw07_same.mono _ _ _
   | exact pomaderef07_Diagram.mono _ _
   | exact pomaderef07_Word.mono _ _
   | exact LeO.none _
   | refine LeO.ite ?_ ?_
   | refine LeO.bind ?_ (fun _ => ?_)
set_option maxHeartbeats 8000000 in
set_option maxRecDepth 100000 in
theorem pomadelaw07_PlaitWords.calls (k : Nat) (A0 : Option Addr) (c0 : Nat) (l0 : List Int) (r : Bool) (w : World) (hr0 : Kd.C (Kd.int .i64) w A0 l0.length l0) (hc0 : l0.length ≤ c0) (h : pomadelaw07_PlaitWords.f k l0 = some r) :
  Calls Try.prog 3 #[.slice A0 l0.length c0] w fun e w' => e = .returned (.bool r) ∧ Below w.heap.size w w' := by
 have HR0 := Aside0.mk hr0
 have HC0 := Aside0.mk hc0
 clear hr0 hc0
 have HB := Aside0.mk (Below.refl w.heap.size w)
 have H : (if (l0.length : Int) > 50 then (pomadelaw07_PlaitWords.j0 k l0 true) else (if (l0.length : Int) > 16 then ((pomaderef07_Diagram.f k l0).bind fun t428 => (pomadelaw07_PlaitWords.j0 k l0 (t428 == 0))) else (pomadelaw07_PlaitWords.j0 k l0 false))) = some r := h
 clear h
 have HC2 := Aside0.mk H
 clear H
 go_enter Try.func3, Try.ntmps3
 go_upto_region 1 with (fail)
 go_cut [19] (fun v19 wc => ∃ (kq : Nat) (x19_1 : Bool), v19 = .bool x19_1 ∧ Aside0 (pomadelaw07_PlaitWords.j0 kq l0 x19_1 = some r) ∧ Aside0 (kq ≤ k) ∧ Aside0 (Below w.heap.size w wc))
 case first =>
  have H := HC2.out
  clear HC2
  by_cases c3 : (l0.length : Int) > 50
  ·rw [if_pos c3] at H
   have c3b0 : decide (50 < (l0.length : Int)) = true := decide_eq_true c3
   have c3b1 : decide (50 < l0.length) = true := decide_eq_true (by omega)
   clear c3
   (first | rw [c3b0] | (simp only [i64_w, i32_w]; rw [c3b0]) | skip)
   have H' := Aside0.mk H
   clear H
   go_wp2
   go_meet
   case rel => exact ⟨_, (true), (by first | rfl | (simp; done) | (simp [*]; done)), H', ⟨by first | omega | exact Nat.le_refl _⟩, ⟨by repeat (first | (with_reducible first | exact HB.out | apply below_alloc | apply pw_below_drewN | apply below_drew1) | exact HB.out)⟩⟩
  ·rw [if_neg c3] at H
   have c3b0 : decide (50 < (l0.length : Int)) = false := decide_eq_false c3
   have c3b1 : decide (50 < l0.length) = false := decide_eq_false (by omega)
   clear c3
   (first | rw [c3b0] | (simp only [i64_w, i32_w]; rw [c3b0]) | skip)
   by_cases c4 : (l0.length : Int) > 16
   ·rw [if_pos c4] at H
    have c4b0 : decide (16 < (l0.length : Int)) = true := decide_eq_true c4
    have c4b1 : decide (16 < l0.length) = true := decide_eq_true (by omega)
    clear c4
    replace H := Option.bind_eq_some_iff.mp H
    obtain ⟨t428, A50, H⟩ := H
    replace H : (pomadelaw07_PlaitWords.j0 k l0 (t428 == 0)) = some r := H
    have A5 := Aside0.mk A50
    clear A50
    have H' := Aside0.mk H
    clear H
    go_wp2_with (first | (go_at_call 19; (with_reducible refine (pomaderef07_Diagram.calls k _ _ l0 t428 _ ?side1 ?side2 A5.out).mono ?_); (case side1 => repeat (first | exact (Kd.C_below HR0.out HB.out) | (with_reducible refine Kd.C_alloc ?_ _) | (with_reducible refine Kd.C_drewN ?_ _) | (with_reducible refine Kd.C_drew ?_))); (case side2 => exact HC0.out); rintro e w' ⟨rfl, ⟨nd, rfl⟩⟩))
    go_meet
    case rel => exact ⟨_, ((t428 == 0)), (by first | rfl | (simp; done) | (simp [*]; done)), H', ⟨by first | omega | exact Nat.le_refl _⟩, ⟨by repeat (first | (with_reducible first | exact HB.out | apply below_alloc | apply pw_below_drewN | apply below_drew1) | exact HB.out)⟩⟩
   ·rw [if_neg c4] at H
    have c4b0 : decide (16 < (l0.length : Int)) = false := decide_eq_false c4
    have c4b1 : decide (16 < l0.length) = false := decide_eq_false (by omega)
    clear c4
    have H' := Aside0.mk H
    clear H
    go_wp2
    go_meet
    case rel => exact ⟨_, (false), (by first | rfl | (simp; done) | (simp [*]; done)), H', ⟨by first | omega | exact Nat.le_refl _⟩, ⟨by repeat (first | (with_reducible first | exact HB.out | apply below_alloc | apply pw_below_drewN | apply below_drew1) | exact HB.out)⟩⟩
 case rest =>
  clear HC2
  try clear p2
  try clear c3
  try clear c3b0
  try clear c3b1
  try clear c4
  try clear c4b0
  try clear c4b1
  obtain ⟨kq, x19_1, rfl, HA, HJ1, HB⟩ := hcut
  cases kq with
  | zero => exact absurd HA.out (by simp [pomadelaw07_PlaitWords.j0])
  | succ kj1 =>
   have H := HA.out
   clear HA
   simp only [pomadelaw07_PlaitWords.j0] at H
   by_cases c6 : x19_1 = true
   ·subst c6
    have H1 : ((pomadelaw07_alive.f).bind fun t429 => (some t429)) = some r := by rw [if_pos rfl] at H; exact H
    clear H
    have H := H1
    clear H1
    replace H := Option.bind_eq_some_iff.mp H
    obtain ⟨t429, A70, H⟩ := H
    replace H : (some t429) = some r := H
    have A7 := Aside0.mk A70
    clear A70
    obtain rfl := Option.some.inj H
    go_wp2_with (first | ((with_reducible refine gate_callee (f := 20) rfl ?_); refine goesL_ (some 20) rfl rfl Try.func20 (by kernel_rfl) rfl #[] rfl (by (try simp only [List.map_toArray, List.map_cons, List.map_nil]); first | done | rfl | (simp only [List.length_drop, List.length_take]; rfl)) ?_; (with_reducible refine (pomadelaw07_alive.calls  t429 _ A7.out).mono ?_); rintro e w8 ⟨rfl, hb⟩; refine ⟨_, rfl, ?_⟩; have n0_ := Aside0.mk (below_step (by repeat (first | (with_reducible first | exact HB.out | apply below_alloc | apply pw_below_drewN | apply below_drew1) | exact HB.out)) hb); clear HB; have HB := n0_; clear n0_; (try clear hb); (try clear hb2); (try clear hk); (try clear hi)))
    go_ret
    exact ⟨by first | rfl | (simp [errW_none, errW_some] <;> rfl) | (simp [*, errW_none, errW_some] <;> rfl), by repeat (first | (with_reducible first | exact HB.out | apply below_alloc | apply pw_below_drewN | apply below_drew1) | exact HB.out)⟩
   ·replace c6 := Bool.eq_false_iff.mpr c6
    subst c6
    have H1 : ((plait_Word.f kj1 l0).bind fun bt430 => ((pomaderef07_Word.f kj1 l0).bind fun bt434 => ((pomadelaw07_same.f kj1 bt430.1 bt434.1).bind fun t438 => (if t438 = true then (if bt430.2 = bt434.2 then ((pomadelaw07_alive.f).bind fun t439 => (some t439)) else (some false)) else (some false))))) = some r := by rw [if_neg (show ¬ (false = true) by decide)] at H; exact H
    clear H
    have H := H1
    clear H1
    replace H := Option.bind_eq_some_iff.mp H
    obtain ⟨⟨t430, t431⟩, A90, H⟩ := H
    replace H : ((pomaderef07_Word.f kj1 l0).bind fun bt434 => ((pomadelaw07_same.f kj1 t430 bt434.1).bind fun t438 => (if t438 = true then (if t431 = bt434.2 then ((pomadelaw07_alive.f).bind fun t439 => (some t439)) else (some false)) else (some false)))) = some r := H
    have A9 := Aside0.mk A90
    clear A90
    replace H := Option.bind_eq_some_iff.mp H
    obtain ⟨⟨t434, t437⟩, A100, H⟩ := H
    replace H : ((pomadelaw07_same.f kj1 t430 t434).bind fun t438 => (if t438 = true then (if t431 = t437 then ((pomadelaw07_alive.f).bind fun t439 => (some t439)) else (some false)) else (some false))) = some r := H
    have A10 := Aside0.mk A100
    clear A100
    replace H := Option.bind_eq_some_iff.mp H
    obtain ⟨t438, A110, H⟩ := H
    replace H : (if t438 = true then (if t431 = t437 then ((pomadelaw07_alive.f).bind fun t439 => (some t439)) else (some false)) else (some false)) = some r := H
    have A11 := Aside0.mk A110
    clear A110
    by_cases c12 : t438 = true
    ·subst c12
     have H1 : (if t431 = t437 then ((pomadelaw07_alive.f).bind fun t439 => (some t439)) else (some false)) = some r := by rw [if_pos rfl] at H; exact H
     clear H
     have H := H1
     clear H1
     by_cases c13 : t431 = t437
     ·rw [if_pos c13] at H
      have c13b0 : (t431 == t437) = true := beq_iff_eq.mpr c13
      have c13b1 : (t431 != t437) = false := bne_eq_false_iff_eq.mpr c13
      clear c13
      replace H := Option.bind_eq_some_iff.mp H
      obtain ⟨t439, A140, H⟩ := H
      replace H : (some t439) = some r := H
      have A14 := Aside0.mk A140
      clear A140
      obtain rfl := Option.some.inj H
      go_wp2_with (first | ((with_reducible refine gate_callee (f := 21) rfl ?_); refine goesL_ (some 23) rfl rfl Try.func21 (by kernel_rfl) rfl #[.slice A0 l0.length c0] rfl (by (try simp only [List.map_toArray, List.map_cons, List.map_nil]); first | done | rfl | (simp only [List.length_drop, List.length_take]; rfl)) ?_; (with_reducible refine (plait_Word.calls kj1 _ _ l0 t430 t431 _ ?side1 ?side2 A9.out).mono ?_); (case side1 => repeat (first | exact (Kd.C_below HR0.out HB.out) | (with_reducible refine Kd.C_alloc ?_ _) | (with_reducible refine Kd.C_drewN ?_ _) | (with_reducible refine Kd.C_drew ?_))); (case side2 => exact HC0.out); rintro e w15 ⟨v432, rfl, ho0, hb⟩; refine ⟨_, rfl, ?_⟩; have n0_ := Aside0.mk (Kd.R_lower ho0 (below_size (by repeat (first | (with_reducible first | exact HB.out | apply below_alloc | apply pw_below_drewN | apply below_drew1) | exact HB.out)))); have n1_ := Aside0.mk (below_step (by repeat (first | (with_reducible first | exact HB.out | apply below_alloc | apply pw_below_drewN | apply below_drew1) | exact HB.out)) hb); clear HB; have HO433 := n0_; have HB := n1_; clear n0_ n1_; (try clear hb); (try clear hb2); (try clear hk); (try clear hi); (try clear ho0)) | ((with_reducible refine gate_callee (f := 22) rfl ?_); refine goesL_ (some 28) rfl rfl Try.func22 (by kernel_rfl) rfl #[.slice A0 l0.length c0] rfl (by (try simp only [List.map_toArray, List.map_cons, List.map_nil]); first | done | rfl | (simp only [List.length_drop, List.length_take]; rfl)) ?_; (with_reducible refine (pomaderef07_Word.calls kj1 _ _ l0 t434 t437 _ ?side1 ?side2 A10.out).mono ?_); (case side1 => repeat (first | exact (Kd.C_below HR0.out HB.out) | (with_reducible refine Kd.C_alloc ?_ _) | (with_reducible refine Kd.C_drewN ?_ _) | (with_reducible refine Kd.C_drew ?_))); (case side2 => exact HC0.out); rintro e w16 ⟨v435, rfl, ho0, hb⟩; refine ⟨_, rfl, ?_⟩; have n0_ := Aside0.mk (Kd.R_below (by (with_reducible repeat (first | apply Kd.R_alloc | apply Kd.R_drewN | apply Kd.R_drew)); exact HO433.out) hb); have n1_ := Aside0.mk (Kd.V_lower (Kd.V_mono (ok' := fun k_ => some k_ ≠ (v432 : Value).ownBlock) ho0 (fun k_ hk_ => (Kd.fresh' (Kd.R_lt (by (with_reducible repeat (first | apply Kd.R_alloc | apply Kd.R_drewN | apply Kd.R_drew)); exact HO433.out)) k_ hk_))) (below_size (by repeat (first | (with_reducible first | exact HB.out | apply below_alloc | apply pw_below_drewN | apply below_drew1) | exact HB.out)))); have n2_ := Aside0.mk (below_step (by repeat (first | (with_reducible first | exact HB.out | apply below_alloc | apply pw_below_drewN | apply below_drew1) | exact HB.out)) hb); clear HO433; clear HB; have HO433 := n0_; have HO436 := n1_; have HB := n2_; clear n0_ n1_ n2_; (try clear hb); (try clear hb2); (try clear hk); (try clear hi); (try clear ho0); obtain ⟨Ao17, co17, eo17⟩ := Kd.R_slice HO433.out; subst eo17; obtain ⟨Ao18, co18, eo18⟩ := Kd.V_slice HO436.out; subst eo18) | ((with_reducible refine gate_callee (f := 23) rfl ?_); refine goesL_ (some 33) rfl rfl Try.func23 (by kernel_rfl) rfl #[.slice Ao17 t430.length co17, .slice Ao18 t434.length co18] rfl (by (try simp only [List.map_toArray, List.map_cons, List.map_nil]); first | done | rfl | (simp only [List.length_drop, List.length_take]; rfl)) ?_; (with_reducible refine (pomadelaw07_same.calls kj1 _ _ t430 _ _ t434 true _ ?side1 ?side2 ?side3 ?side4 A11.out).mono ?_); (case side1 => repeat (first | exact (Kd.R_reads' HO433.out).2.2 | (with_reducible refine Kd.C_alloc ?_ _) | (with_reducible refine Kd.C_drewN ?_ _) | (with_reducible refine Kd.C_drew ?_))); (case side2 => exact (Kd.R_reads' HO433.out).2.1); (case side3 => repeat (first | exact (Kd.V_reads' HO436.out).2.2 | (with_reducible refine Kd.C_alloc ?_ _) | (with_reducible refine Kd.C_drewN ?_ _) | (with_reducible refine Kd.C_drew ?_))); (case side4 => exact (Kd.V_reads' HO436.out).2.1); rintro e w' ⟨rfl, ⟨nd, rfl⟩⟩; refine ⟨_, rfl, ?_⟩) | (go_at_call 20; (with_reducible refine (pomadelaw07_alive.calls  t439 _ A14.out).mono ?_); rintro e w19 ⟨rfl, hb⟩; have n0_ := Aside0.mk (Kd.R_below (by (with_reducible repeat (first | apply Kd.R_alloc | apply Kd.R_drewN | apply Kd.R_drew)); exact HO433.out) hb); have n1_ := Aside0.mk (Kd.V_below (by (with_reducible repeat (first | apply Kd.V_alloc | apply Kd.V_drewN | apply Kd.V_drew)); exact HO436.out) hb); have n2_ := Aside0.mk (below_step (by repeat (first | (with_reducible first | exact HB.out | apply below_alloc | apply pw_below_drewN | apply below_drew1) | exact HB.out)) hb); clear HO433; clear HO436; clear HB; have HO433 := n0_; have HO436 := n1_; have HB := n2_; clear n0_ n1_ n2_; (try clear hb); (try clear hb2); (try clear hk); (try clear hi)))
      go_ret
      exact ⟨by first | rfl | (simp [errW_none, errW_some] <;> rfl) | (simp [*, errW_none, errW_some] <;> rfl), by repeat (first | (with_reducible first | exact HB.out | apply below_alloc | apply pw_below_drewN | apply below_drew1) | exact HB.out)⟩
     ·rw [if_neg c13] at H
      have c13b0 : (t431 == t437) = false := beq_eq_false_iff_ne.mpr c13
      have c13b1 : (t431 != t437) = true := bne_iff_ne.mpr c13
      obtain rfl := Option.some.inj H
      go_wp2_with (first | ((with_reducible refine gate_callee (f := 21) rfl ?_); refine goesL_ (some 23) rfl rfl Try.func21 (by kernel_rfl) rfl #[.slice A0 l0.length c0] rfl (by (try simp only [List.map_toArray, List.map_cons, List.map_nil]); first | done | rfl | (simp only [List.length_drop, List.length_take]; rfl)) ?_; (with_reducible refine (plait_Word.calls kj1 _ _ l0 t430 t431 _ ?side1 ?side2 A9.out).mono ?_); (case side1 => repeat (first | exact (Kd.C_below HR0.out HB.out) | (with_reducible refine Kd.C_alloc ?_ _) | (with_reducible refine Kd.C_drewN ?_ _) | (with_reducible refine Kd.C_drew ?_))); (case side2 => exact HC0.out); rintro e w20 ⟨v432, rfl, ho0, hb⟩; refine ⟨_, rfl, ?_⟩; have n0_ := Aside0.mk (Kd.R_lower ho0 (below_size (by repeat (first | (with_reducible first | exact HB.out | apply below_alloc | apply pw_below_drewN | apply below_drew1) | exact HB.out)))); have n1_ := Aside0.mk (below_step (by repeat (first | (with_reducible first | exact HB.out | apply below_alloc | apply pw_below_drewN | apply below_drew1) | exact HB.out)) hb); clear HB; have HO433 := n0_; have HB := n1_; clear n0_ n1_; (try clear hb); (try clear hb2); (try clear hk); (try clear hi); (try clear ho0)) | ((with_reducible refine gate_callee (f := 22) rfl ?_); refine goesL_ (some 28) rfl rfl Try.func22 (by kernel_rfl) rfl #[.slice A0 l0.length c0] rfl (by (try simp only [List.map_toArray, List.map_cons, List.map_nil]); first | done | rfl | (simp only [List.length_drop, List.length_take]; rfl)) ?_; (with_reducible refine (pomaderef07_Word.calls kj1 _ _ l0 t434 t437 _ ?side1 ?side2 A10.out).mono ?_); (case side1 => repeat (first | exact (Kd.C_below HR0.out HB.out) | (with_reducible refine Kd.C_alloc ?_ _) | (with_reducible refine Kd.C_drewN ?_ _) | (with_reducible refine Kd.C_drew ?_))); (case side2 => exact HC0.out); rintro e w21 ⟨v435, rfl, ho0, hb⟩; refine ⟨_, rfl, ?_⟩; have n0_ := Aside0.mk (Kd.R_below (by (with_reducible repeat (first | apply Kd.R_alloc | apply Kd.R_drewN | apply Kd.R_drew)); exact HO433.out) hb); have n1_ := Aside0.mk (Kd.V_lower (Kd.V_mono (ok' := fun k_ => some k_ ≠ (v432 : Value).ownBlock) ho0 (fun k_ hk_ => (Kd.fresh' (Kd.R_lt (by (with_reducible repeat (first | apply Kd.R_alloc | apply Kd.R_drewN | apply Kd.R_drew)); exact HO433.out)) k_ hk_))) (below_size (by repeat (first | (with_reducible first | exact HB.out | apply below_alloc | apply pw_below_drewN | apply below_drew1) | exact HB.out)))); have n2_ := Aside0.mk (below_step (by repeat (first | (with_reducible first | exact HB.out | apply below_alloc | apply pw_below_drewN | apply below_drew1) | exact HB.out)) hb); clear HO433; clear HB; have HO433 := n0_; have HO436 := n1_; have HB := n2_; clear n0_ n1_ n2_; (try clear hb); (try clear hb2); (try clear hk); (try clear hi); (try clear ho0); obtain ⟨Ao22, co22, eo22⟩ := Kd.R_slice HO433.out; subst eo22; obtain ⟨Ao23, co23, eo23⟩ := Kd.V_slice HO436.out; subst eo23) | ((with_reducible refine gate_callee (f := 23) rfl ?_); refine goesL_ (some 33) rfl rfl Try.func23 (by kernel_rfl) rfl #[.slice Ao22 t430.length co22, .slice Ao23 t434.length co23] rfl (by (try simp only [List.map_toArray, List.map_cons, List.map_nil]); first | done | rfl | (simp only [List.length_drop, List.length_take]; rfl)) ?_; (with_reducible refine (pomadelaw07_same.calls kj1 _ _ t430 _ _ t434 true _ ?side1 ?side2 ?side3 ?side4 A11.out).mono ?_); (case side1 => repeat (first | exact (Kd.R_reads' HO433.out).2.2 | (with_reducible refine Kd.C_alloc ?_ _) | (with_reducible refine Kd.C_drewN ?_ _) | (with_reducible refine Kd.C_drew ?_))); (case side2 => exact (Kd.R_reads' HO433.out).2.1); (case side3 => repeat (first | exact (Kd.V_reads' HO436.out).2.2 | (with_reducible refine Kd.C_alloc ?_ _) | (with_reducible refine Kd.C_drewN ?_ _) | (with_reducible refine Kd.C_drew ?_))); (case side4 => exact (Kd.V_reads' HO436.out).2.1); rintro e w' ⟨rfl, ⟨nd, rfl⟩⟩; refine ⟨_, rfl, ?_⟩))
      go_ret
      exact ⟨by first | rfl | (simp [errW_none, errW_some] <;> rfl) | (simp [*, errW_none, errW_some] <;> rfl), by repeat (first | (with_reducible first | exact HB.out | apply below_alloc | apply pw_below_drewN | apply below_drew1) | exact HB.out)⟩
    ·replace c12 := Bool.eq_false_iff.mpr c12
     subst c12
     have H1 : (some false) = some r := by rw [if_neg (show ¬ (false = true) by decide)] at H; exact H
     clear H
     have H := H1
     clear H1
     obtain rfl := Option.some.inj H
     go_wp2_with (first | ((with_reducible refine gate_callee (f := 21) rfl ?_); refine goesL_ (some 23) rfl rfl Try.func21 (by kernel_rfl) rfl #[.slice A0 l0.length c0] rfl (by (try simp only [List.map_toArray, List.map_cons, List.map_nil]); first | done | rfl | (simp only [List.length_drop, List.length_take]; rfl)) ?_; (with_reducible refine (plait_Word.calls kj1 _ _ l0 t430 t431 _ ?side1 ?side2 A9.out).mono ?_); (case side1 => repeat (first | exact (Kd.C_below HR0.out HB.out) | (with_reducible refine Kd.C_alloc ?_ _) | (with_reducible refine Kd.C_drewN ?_ _) | (with_reducible refine Kd.C_drew ?_))); (case side2 => exact HC0.out); rintro e w24 ⟨v432, rfl, ho0, hb⟩; refine ⟨_, rfl, ?_⟩; have n0_ := Aside0.mk (Kd.R_lower ho0 (below_size (by repeat (first | (with_reducible first | exact HB.out | apply below_alloc | apply pw_below_drewN | apply below_drew1) | exact HB.out)))); have n1_ := Aside0.mk (below_step (by repeat (first | (with_reducible first | exact HB.out | apply below_alloc | apply pw_below_drewN | apply below_drew1) | exact HB.out)) hb); clear HB; have HO433 := n0_; have HB := n1_; clear n0_ n1_; (try clear hb); (try clear hb2); (try clear hk); (try clear hi); (try clear ho0)) | ((with_reducible refine gate_callee (f := 22) rfl ?_); refine goesL_ (some 28) rfl rfl Try.func22 (by kernel_rfl) rfl #[.slice A0 l0.length c0] rfl (by (try simp only [List.map_toArray, List.map_cons, List.map_nil]); first | done | rfl | (simp only [List.length_drop, List.length_take]; rfl)) ?_; (with_reducible refine (pomaderef07_Word.calls kj1 _ _ l0 t434 t437 _ ?side1 ?side2 A10.out).mono ?_); (case side1 => repeat (first | exact (Kd.C_below HR0.out HB.out) | (with_reducible refine Kd.C_alloc ?_ _) | (with_reducible refine Kd.C_drewN ?_ _) | (with_reducible refine Kd.C_drew ?_))); (case side2 => exact HC0.out); rintro e w25 ⟨v435, rfl, ho0, hb⟩; refine ⟨_, rfl, ?_⟩; have n0_ := Aside0.mk (Kd.R_below (by (with_reducible repeat (first | apply Kd.R_alloc | apply Kd.R_drewN | apply Kd.R_drew)); exact HO433.out) hb); have n1_ := Aside0.mk (Kd.V_lower (Kd.V_mono (ok' := fun k_ => some k_ ≠ (v432 : Value).ownBlock) ho0 (fun k_ hk_ => (Kd.fresh' (Kd.R_lt (by (with_reducible repeat (first | apply Kd.R_alloc | apply Kd.R_drewN | apply Kd.R_drew)); exact HO433.out)) k_ hk_))) (below_size (by repeat (first | (with_reducible first | exact HB.out | apply below_alloc | apply pw_below_drewN | apply below_drew1) | exact HB.out)))); have n2_ := Aside0.mk (below_step (by repeat (first | (with_reducible first | exact HB.out | apply below_alloc | apply pw_below_drewN | apply below_drew1) | exact HB.out)) hb); clear HO433; clear HB; have HO433 := n0_; have HO436 := n1_; have HB := n2_; clear n0_ n1_ n2_; (try clear hb); (try clear hb2); (try clear hk); (try clear hi); (try clear ho0); obtain ⟨Ao26, co26, eo26⟩ := Kd.R_slice HO433.out; subst eo26; obtain ⟨Ao27, co27, eo27⟩ := Kd.V_slice HO436.out; subst eo27) | ((with_reducible refine gate_callee (f := 23) rfl ?_); refine goesL_ (some 33) rfl rfl Try.func23 (by kernel_rfl) rfl #[.slice Ao26 t430.length co26, .slice Ao27 t434.length co27] rfl (by (try simp only [List.map_toArray, List.map_cons, List.map_nil]); first | done | rfl | (simp only [List.length_drop, List.length_take]; rfl)) ?_; (with_reducible refine (pomadelaw07_same.calls kj1 _ _ t430 _ _ t434 false _ ?side1 ?side2 ?side3 ?side4 A11.out).mono ?_); (case side1 => repeat (first | exact (Kd.R_reads' HO433.out).2.2 | (with_reducible refine Kd.C_alloc ?_ _) | (with_reducible refine Kd.C_drewN ?_ _) | (with_reducible refine Kd.C_drew ?_))); (case side2 => exact (Kd.R_reads' HO433.out).2.1); (case side3 => repeat (first | exact (Kd.V_reads' HO436.out).2.2 | (with_reducible refine Kd.C_alloc ?_ _) | (with_reducible refine Kd.C_drewN ?_ _) | (with_reducible refine Kd.C_drew ?_))); (case side4 => exact (Kd.V_reads' HO436.out).2.1); rintro e w' ⟨rfl, ⟨nd, rfl⟩⟩; refine ⟨_, rfl, ?_⟩))
     go_ret
     exact ⟨by first | rfl | (simp [errW_none, errW_some] <;> rfl) | (simp [*, errW_none, errW_some] <;> rfl), by repeat (first | (with_reducible first | exact HB.out | apply below_alloc | apply pw_below_drewN | apply below_drew1) | exact HB.out)⟩
/-- THE ONE PURE STATEMENT of pomadelaw07_PlaitWords: yours. -/
def pomadelaw07_PlaitWords.Pure : Prop := ∀ (l0 : List Int), l0.length ≤ maxLen → l0.length * 8 ≤ 140737488351232 → (∀ x ∈ l0, (Lit.int .i64 x).wf = true) → ∃ k, pomadelaw07_PlaitWords.f k l0 = some true
theorem pomadelaw07_PlaitWords.walk (P : pomadelaw07_PlaitWords.Pure) (a0 : Option Addr) (len0 cap0 : Nat) (z0 : List Int) (w : World) (w0 : (a0 = none ∧ len0 = 0 ∧ cap0 = 0 ∧ z0 = []) ∨ ∃ x, a0 = some x ∧ len0 ≤ cap0 ∧ cap0 ≤ maxLen ∧ z0.length = cap0 ∧ (∀ i, i < z0.length → w.cell? (x.add i) = some (.int .i64 (z0.getD i 0))) ∧ ∀ n ∈ z0, (Lit.int .i64 n).wf = true) (y0 : len0 * 8 ≤ 140737488351232) :
  Calls Try.prog 3 #[.slice a0 len0 cap0] w fun e w' => e = .returned (.bool true) ∧ Below w.heap.size w w' := by
 obtain ⟨l0, rfl, hr0, hm0, hw0, hc0⟩ := ReadsInt.ofRowC w0
 obtain ⟨k, h⟩ := P l0 hm0 y0 hw0
 refine (pomadelaw07_PlaitWords.calls k _ _ l0 true w (Kd.C_of_reads (d := (0 : Int)) (h1 := fun _ => rfl) hr0) hc0 h).mono ?_
 rintro e w' ⟨rfl, hd⟩
 exact ⟨rfl, hd⟩
end Go.Proofs.Ytjfkompfkgjdaaa.PC
end
section
/- Gluing matchings: pairs of points joined one after another; ways, closed curves, order, names, crossings. Plain. -/
namespace Go.Proofs.Ytjfkompfkgjdaaa.G
def Inv2 (σ : Nat → Nat) : Prop := ∀ x, σ (σ x) = x
theorem Inv2.inj {σ : Nat → Nat} (h : Inv2 σ) {a b : Nat} (e : σ a = σ b) : a = b := by rw [← h a, e, h b]
def con (x y : Nat) (σ : Nat → Nat) (z : Nat) : Nat :=
  if z = x ∨ z = y then z else if z = σ x then σ y else if z = σ y then σ x else σ z
def lp (x y : Nat) (σ : Nat → Nat) : Nat := if σ x = y then 1 else 0
def glue : List (Nat × Nat) → (Nat → Nat) → (Nat → Nat) × Nat
  | [], σ => (σ, 0)
  | (x, y) :: l, σ => ((glue l (con x y σ)).1, (glue l (con x y σ)).2 + lp x y σ)
theorem con_inv {σ : Nat → Nat} {x y : Nat} (h : Inv2 σ) (hx : σ x ≠ x) (hy : σ y ≠ y) (hn : x ≠ y) : Inv2 (con x y σ) := by
  intro z
  have hi : ∀ a b, σ a = σ b → a = b := fun a b => h.inj
  have h1 := h x
  have h2 := h y
  have h3 := h z
  unfold con
  grind
theorem con_alive {σ : Nat → Nat} {x y z : Nat} (h : Inv2 σ) (hn : x ≠ y) (zx : z ≠ x) (zy : z ≠ y) (hz : σ z ≠ z) : con x y σ z ≠ z := by
  have hi : ∀ a b, σ a = σ b → a = b := fun a b => h.inj
  have h1 := h x
  have h2 := h y
  have h3 := h z
  unfold con
  grind
theorem con_dead {σ : Nat → Nat} {x y z : Nat} (h : Inv2 σ) (hx : σ x ≠ x) (hy : σ y ≠ y) (hz : σ z = z) : con x y σ z = z := by
  have h1 := h x
  have h2 := h y
  unfold con
  grind
set_option maxHeartbeats 4000000 in
theorem con_comm {σ : Nat → Nat} {x y u v : Nat} (h : Inv2 σ) (hx : σ x ≠ x) (hy : σ y ≠ y) (hu : σ u ≠ u) (hv : σ v ≠ v) (xy : x ≠ y) (uv : u ≠ v) (xu : x ≠ u) (xv : x ≠ v) (yu : y ≠ u) (yv : y ≠ v) (z : Nat) :
    con u v (con x y σ) z = con x y (con u v σ) z := by
  have hi : ∀ a b, σ a = σ b → a = b := fun a b => h.inj
  have h1 := h x
  have h2 := h y
  have h3 := h z
  have h4 := h u
  have h5 := h v
  unfold con
  grind (splits := 40)
theorem lp_comm {σ : Nat → Nat} {x y u v : Nat} (h : Inv2 σ) (hx : σ x ≠ x) (hy : σ y ≠ y) (hu : σ u ≠ u) (hv : σ v ≠ v) (xy : x ≠ y) (uv : u ≠ v) (xu : x ≠ u) (xv : x ≠ v) (yu : y ≠ u) (yv : y ≠ v) :
    lp u v (con x y σ) + lp x y σ = lp x y (con u v σ) + lp u v σ := by
  have hi : ∀ a b, σ a = σ b → a = b := fun a b => h.inj
  have h1 := h x
  have h2 := h y
  have h4 := h u
  have h5 := h v
  unfold lp con
  grind
/-- the partner by a list of pairs -/
def tau : List (Nat × Nat) → Nat → Nat
  | [], z => z
  | (x, y) :: l, z => if z = x then y else if z = y then x else tau l z
/-- a point of the pairs -/
def pts (l : List (Nat × Nat)) (z : Nat) : Prop := ∃ p ∈ l, z = p.1 ∨ z = p.2
/-- the pairs are of different points, all alive -/
def OK (σ : Nat → Nat) : List (Nat × Nat) → Prop
  | [] => True
  | (x, y) :: l => x ≠ y ∧ σ x ≠ x ∧ σ y ≠ y ∧ ¬ pts l x ∧ ¬ pts l y ∧ OK σ l
theorem pts_nil (z : Nat) : ¬ pts [] z := by rintro ⟨p, h, _⟩; simp at h
theorem pts_cons (x y : Nat) (l : List (Nat × Nat)) (z : Nat) : pts ((x, y) :: l) z ↔ z = x ∨ z = y ∨ pts l z := by
  constructor
  · rintro ⟨p, h, e⟩
    rcases List.mem_cons.1 h with rfl | h
    · rcases e with e | e
      · exact .inl e
      · exact .inr (.inl e)
    · exact .inr (.inr ⟨p, h, e⟩)
  · rintro (e | e | ⟨p, h, e⟩)
    · exact ⟨(x, y), List.mem_cons_self, .inl e⟩
    · exact ⟨(x, y), List.mem_cons_self, .inr e⟩
    · exact ⟨p, List.mem_cons_of_mem _ h, e⟩
theorem OK.alive {σ : Nat → Nat} {l : List (Nat × Nat)} (h : OK σ l) {z : Nat} (hz : pts l z) : σ z ≠ z := by
  induction l with
  | nil => exact absurd hz (pts_nil z)
  | cons p l ih =>
    obtain ⟨x, y⟩ := p
    obtain ⟨_, h1, h2, _, _, h3⟩ := h
    rcases (pts_cons _ _ _ _).1 hz with rfl | rfl | hz
    · exact h1
    · exact h2
    · exact ih h3 hz
theorem OK.con {σ : Nat → Nat} (hi : Inv2 σ) {x y : Nat} {l : List (Nat × Nat)} (xy : x ≠ y) (hx : ¬ pts l x) (hy : ¬ pts l y) (h : OK σ l) : OK (con x y σ) l := by
  induction l with
  | nil => trivial
  | cons p l ih =>
    obtain ⟨u, v⟩ := p
    obtain ⟨h0, h1, h2, h3, h4, h5⟩ := h
    simp only [pts_cons, not_or] at hx hy
    exact ⟨h0, con_alive hi xy (Ne.symm hx.1) (Ne.symm hy.1) h1, con_alive hi xy (Ne.symm hx.2.1) (Ne.symm hy.2.1) h2, h3, h4, ih hx.2.2 hy.2.2 h5⟩
theorem tau_fst (x y : Nat) (l : List (Nat × Nat)) : tau ((x, y) :: l) x = y := by simp [tau]
theorem tau_snd {x y : Nat} (l : List (Nat × Nat)) (h : x ≠ y) : tau ((x, y) :: l) y = x := by simp only [tau]; rw [if_neg (Ne.symm h)]; simp
theorem tau_out {σ : Nat → Nat} {l : List (Nat × Nat)} (h : OK σ l) {z : Nat} : tau l z = z ↔ ¬ pts l z := by
  induction l with
  | nil => simp [tau, pts_nil]
  | cons p l ih =>
    obtain ⟨x, y⟩ := p
    obtain ⟨h0, _, _, _, _, h5⟩ := h
    have := ih h5
    simp only [tau, pts_cons]
    grind
theorem tau_pts {σ : Nat → Nat} {l : List (Nat × Nat)} (h : OK σ l) {z : Nat} (hz : pts l z) : pts l (tau l z) := by
  induction l with
  | nil => exact absurd hz (pts_nil z)
  | cons p l ih =>
    obtain ⟨x, y⟩ := p
    obtain ⟨h0, _, _, h3, h4, h5⟩ := h
    have := ih h5
    simp only [tau, pts_cons] at hz ⊢
    grind
theorem tau_inv {σ : Nat → Nat} {l : List (Nat × Nat)} (h : OK σ l) : Inv2 (tau l) := by
  induction l with
  | nil => intro z; rfl
  | cons p l ih =>
    obtain ⟨x, y⟩ := p
    intro z
    obtain ⟨h0, _, _, h3, h4, h5⟩ := h
    have h6 := ih h5 z
    have h7 := @tau_pts _ _ h5 z
    have h8 := @tau_out _ _ h5 z
    simp only [tau]
    grind
/-! ### ways -/
inductive Path (σ : Nat → Nat) (l : List (Nat × Nat)) : Nat → Nat → Prop
  | out (p : Nat) : ¬ pts l (σ p) → Path σ l p (σ p)
  | via (p q : Nat) : pts l (σ p) → Path σ l (tau l (σ p)) q → Path σ l p q
theorem path_con {σ : Nat → Nat} (hi : Inv2 σ) {x y : Nat} {l : List (Nat × Nat)} (h : OK σ ((x, y) :: l)) {p q : Nat} (hp : Path σ ((x, y) :: l) p q) :
    (p ≠ x → p ≠ y → Path (con x y σ) l p q) ∧ (p = y → ∀ r, σ r = x → r ≠ x → r ≠ y → Path (con x y σ) l r q) ∧ (p = x → ∀ r, σ r = y → r ≠ x → r ≠ y → Path (con x y σ) l r q) := by
  have hk := h
  obtain ⟨h0, h1, h2, h3, h4, h5⟩ := h
  have e1 : ∀ r, r ≠ x → r ≠ y → σ r ≠ x → σ r ≠ y → con x y σ r = σ r := fun r a b c d => by
    have := hi r; have := hi x; have := hi y; unfold con; grind
  have e2 : ∀ r, r ≠ x → r ≠ y → σ r = x → con x y σ r = σ y := fun r a b c => by
    have := hi r; have := hi x; have := hi y; unfold con; grind
  have e3 : ∀ r, r ≠ x → r ≠ y → σ r = y → con x y σ r = σ x := fun r a b c => by
    have := hi r; have := hi x; have := hi y; unfold con; grind
  induction hp with
  | out p hn =>
    simp only [pts_cons, not_or] at hn
    refine ⟨fun a b => ?_, fun a r b c d => ?_, fun a r b c d => ?_⟩
    · have := e1 p a b hn.1 hn.2.1
      rw [← this]; exact .out _ (by rw [this]; exact hn.2.2)
    · subst a
      have := e2 r c d b
      rw [← this]; exact .out _ (by rw [this]; exact hn.2.2)
    · subst a
      have := e3 r c d b
      rw [← this]; exact .out _ (by rw [this]; exact hn.2.2)
  | via p q hn hp ih =>
    have inside : ∀ r, r ≠ x → r ≠ y → con x y σ r = σ p → σ p ≠ x → σ p ≠ y → Path (con x y σ) l r q := by
      intro r a b c d e
      have hl : pts l (σ p) := by
        rcases (pts_cons _ _ _ _).1 hn with f | f | f
        · exact absurd f d
        · exact absurd f e
        · exact f
      have ht : tau ((x, y) :: l) (σ p) = tau l (σ p) := by simp only [tau]; rw [if_neg d, if_neg e]
      have hw := tau_pts h5 hl
      rw [ht] at ih
      refine .via _ _ (by rw [c]; exact hl) ?_
      rw [c]
      exact ih.1 (fun f => h3 (f ▸ hw)) (fun f => h4 (f ▸ hw))
    refine ⟨fun a b => ?_, fun a r b c d => ?_, fun a r b c d => ?_⟩
    · by_cases ex : σ p = x
      · exact ih.2.1 (by rw [ex]; simp [tau]) p ex a b
      · by_cases ey : σ p = y
        · exact ih.2.2 (by rw [ey]; simp only [tau]; rw [if_neg (Ne.symm h0)]; simp) p ey a b
        · exact inside p a b (e1 p a b ex ey) ex ey
    · subst a
      refine inside r c d (e2 r c d b) (fun f => ?_) h2
      have := hi r; rw [b, ← f, hi p] at this; exact d this.symm
    · subst a
      refine inside r c d (e3 r c d b) h1 (fun f => ?_)
      have := hi r; rw [b, ← f, hi p] at this; exact c this.symm
theorem path_glue (l : List (Nat × Nat)) : ∀ (σ : Nat → Nat), Inv2 σ → OK σ l → ∀ {p q : Nat}, ¬ pts l p → Path σ l p q → (glue l σ).1 p = q := by
  induction l with
  | nil =>
    intro σ _ _ p q _ hp
    cases hp with
    | out _ _ => rfl
    | via _ _ h _ => exact absurd h (pts_nil _)
  | cons e l ih =>
    obtain ⟨x, y⟩ := e
    intro σ hi h p q hn hp
    simp only [pts_cons, not_or] at hn
    have h' := h
    obtain ⟨h0, h1, h2, h3, h4, h5⟩ := h'
    exact ih _ (con_inv hi h1 h2 h0) (h5.con hi h0 h3 h4) hn.2.2 ((path_con hi h hp).1 hn.1 hn.2.1)
/-! ### components -/
inductive Conn (σ τ : Nat → Nat) (x : Nat) : Nat → Prop
  | refl : Conn σ τ x x
  | s (y : Nat) : Conn σ τ x y → Conn σ τ x (σ y)
  | t (y : Nat) : Conn σ τ x y → Conn σ τ x (τ y)
theorem Conn.trans {σ τ : Nat → Nat} {x y z : Nat} (h : Conn σ τ x y) (k : Conn σ τ y z) : Conn σ τ x z := by
  induction k with
  | refl => exact h
  | s _ _ ih => exact .s _ ih
  | t _ _ ih => exact .t _ ih
theorem Conn.symm {σ τ : Nat → Nat} (hs : Inv2 σ) (ht : Inv2 τ) {x y : Nat} (h : Conn σ τ x y) : Conn σ τ y x := by
  induction h with
  | refl => exact .refl
  | s y _ ih => exact Conn.trans (by have := Conn.s (σ := σ) (τ := τ) (x := σ y) _ .refl; rwa [hs y] at this) ih
  | t y _ ih => exact Conn.trans (by have := Conn.t (σ := σ) (τ := τ) (x := τ y) _ .refl; rwa [ht y] at this) ih
theorem conn_con1 {σ : Nat → Nat} (hi : Inv2 σ) {x y : Nat} {l : List (Nat × Nat)} (h : OK σ ((x, y) :: l)) {u v : Nat} (ux : u ≠ x) (uy : u ≠ y) (hc : Conn (con x y σ) (tau l) u v) : v ≠ x ∧ v ≠ y ∧ Conn σ (tau ((x, y) :: l)) u v := by
  obtain ⟨h0, h1, h2, h3, h4, h5⟩ := h
  induction hc with
  | refl => exact ⟨ux, uy, .refl⟩
  | s v _ ih =>
    obtain ⟨a, b, c⟩ := ih
    have i1 := hi v
    have i2 := hi x
    have i3 := hi y
    have s1 := Conn.s (x := u) _ c
    by_cases e : v = σ x
    · have s2 : Conn σ (tau ((x, y) :: l)) u y := by
        have := Conn.t _ s1; rw [e, i2, tau_fst] at this; exact this
      have : con x y σ v = σ y := by unfold con; grind
      rw [this]; exact ⟨by grind, by grind, .s _ s2⟩
    · by_cases e' : v = σ y
      · have s2 : Conn σ (tau ((x, y) :: l)) u x := by
          have := Conn.t _ s1; rw [e', i3, tau_snd _ h0] at this; exact this
        have : con x y σ v = σ x := by unfold con; grind
        rw [this]; exact ⟨by grind, by grind, .s _ s2⟩
      · have : con x y σ v = σ v := by unfold con; grind
        rw [this]; exact ⟨by grind, by grind, s1⟩
  | t v _ ih =>
    obtain ⟨a, b, c⟩ := ih
    have s1 := Conn.t _ c
    have e : tau ((x, y) :: l) v = tau l v := by simp only [tau]; rw [if_neg a, if_neg b]
    rw [e] at s1
    have k1 := @tau_out _ _ h5 v
    have k2 := @tau_pts _ _ h5 v
    exact ⟨by grind, by grind, s1⟩
theorem conn_con2 {σ : Nat → Nat} (hi : Inv2 σ) {x y : Nat} {l : List (Nat × Nat)} (h : OK σ ((x, y) :: l)) {u v : Nat} (ux : u ≠ x) (uy : u ≠ y) (hc : Conn σ (tau ((x, y) :: l)) u v) : (v ≠ x → v ≠ y → Conn (con x y σ) (tau l) u v) ∧ (v = x ∨ v = y → σ v ≠ x ∧ σ v ≠ y ∧ Conn (con x y σ) (tau l) u (σ v)) := by
  obtain ⟨h0, h1, h2, h3, h4, h5⟩ := h
  have i2 := hi x
  have i3 := hi y
  induction hc with
  | refl => exact ⟨fun _ _ => .refl, fun e => by rcases e with e | e; exact absurd e ux; exact absurd e uy⟩
  | s v _ ih =>
    have i1 := hi v
    by_cases a : v = x ∨ v = y
    · obtain ⟨b, c, d⟩ := ih.2 a
      exact ⟨fun _ _ => d, fun e => by grind⟩
    · have a1 : v ≠ x := fun e => a (.inl e)
      have a2 : v ≠ y := fun e => a (.inr e)
      have d := ih.1 a1 a2
      refine ⟨fun e f => ?_, fun e => by rw [i1]; exact ⟨a1, a2, d⟩⟩
      have := Conn.s _ d
      have g : con x y σ v = σ v := by unfold con; grind
      rwa [g] at this
  | t v _ ih =>
    by_cases a : v = x ∨ v = y
    · obtain ⟨b, c, d⟩ := ih.2 a
      have := Conn.s _ d
      refine ⟨fun e f => ?_, fun e => ?_⟩
      · rcases a with a | a <;> subst a <;> simp only [tau] at e f <;> grind
      · rcases a with a | a
        · subst a
          have g : con v y σ (σ v) = σ y := by unfold con; grind
          have k : tau ((v, y) :: l) v = y := by simp [tau]
          rw [k]; rw [g] at this
          exact ⟨by grind, by grind, this⟩
        · subst a
          have g : con x v σ (σ v) = σ x := by unfold con; grind
          have k : tau ((x, v) :: l) v = x := by simp only [tau]; rw [if_neg (Ne.symm h0)]; simp
          rw [k]; rw [g] at this
          exact ⟨by grind, by grind, this⟩
    · have a1 : v ≠ x := fun e => a (.inl e)
      have a2 : v ≠ y := fun e => a (.inr e)
      have d := Conn.t _ (ih.1 a1 a2)
      have e : tau ((x, y) :: l) v = tau l v := by simp only [tau]; rw [if_neg a1, if_neg a2]
      have k1 := @tau_out _ _ h5 v
      have k2 := @tau_pts _ _ h5 v
      rw [e]
      exact ⟨fun _ _ => d, fun f => by grind⟩
/-! ### how many loops -/
def prs (f g : Nat → Nat) : Nat → List (Nat × Nat)
  | 0 => []
  | k + 1 => (f k, g k) :: prs f g k
theorem pts_prs (f g : Nat → Nat) (k z : Nat) : pts (prs f g k) z ↔ ∃ i, i < k ∧ (z = f i ∨ z = g i) := by
  induction k with
  | zero => simp [prs, pts_nil]
  | succ k ih =>
    simp only [prs, pts_cons, ih]
    constructor
    · rintro (e | e | ⟨i, h, e⟩)
      · exact ⟨k, by omega, .inl e⟩
      · exact ⟨k, by omega, .inr e⟩
      · exact ⟨i, by omega, e⟩
    · rintro ⟨i, h, e⟩
      by_cases c : i = k
      · subst c
        rcases e with e | e
        · exact .inl e
        · exact .inr (.inl e)
      · exact .inr (.inr ⟨i, by omega, e⟩)
open Classical in
/-- how many below k -/
noncomputable def cntP (P : Nat → Prop) : Nat → Nat
  | 0 => 0
  | k + 1 => cntP P k + if P k then 1 else 0
theorem cntP_congr {P Q : Nat → Prop} (k : Nat) (h : ∀ i, i < k → (P i ↔ Q i)) : cntP P k = cntP Q k := by
  induction k with
  | zero => rfl
  | succ k ih =>
    simp only [cntP]
    rw [ih (fun i hi => h i (by omega))]
    have := h k (by omega)
    by_cases c : P k
    · rw [if_pos c, if_pos (this.1 c)]
    · rw [if_neg c, if_neg (fun d => c (this.2 d))]
theorem cntP_le (P : Nat → Prop) (k : Nat) : cntP P k ≤ k := by
  induction k with
  | zero => exact Nat.le_refl _
  | succ k ih => simp only [cntP]; split <;> omega
/-- pair j is the first of its closed curve -/
def Mn (f g : Nat → Nat) (k : Nat) (σ : Nat → Nat) (j : Nat) : Prop := ∀ z, Conn σ (tau (prs f g k)) (f j) z → ∃ i, j ≤ i ∧ i < k ∧ (z = f i ∨ z = g i)
theorem mn_con {f g : Nat → Nat} {k : Nat} {σ : Nat → Nat} (hi : Inv2 σ) (h : OK σ (prs f g (k + 1))) {j : Nat} (hj : j < k) : Mn f g (k + 1) σ j ↔ Mn f g k (con (f k) (g k) σ) j := by
  have h' := h
  obtain ⟨h0, h1, h2, h3, h4, h5⟩ := h'
  have fx : f j ≠ f k := fun e => h3 ((pts_prs _ _ _ _).2 ⟨j, hj, .inl e.symm⟩)
  have fy : f j ≠ g k := fun e => h4 ((pts_prs _ _ _ _).2 ⟨j, hj, .inl e.symm⟩)
  constructor
  · intro m z hz
    obtain ⟨zx, zy, hz⟩ := conn_con1 hi h fx fy hz
    obtain ⟨i, a, b, c⟩ := m z hz
    exact ⟨i, a, by grind, c⟩
  · intro m z hz
    by_cases e : z = f k ∨ z = g k
    · exact ⟨k, by omega, by omega, e⟩
    · obtain ⟨i, a, b, c⟩ := m z ((conn_con2 hi h fx fy hz).1 (fun q => e (.inl q)) (fun q => e (.inr q)))
      exact ⟨i, a, by omega, c⟩
theorem mn_self {f g : Nat → Nat} {k : Nat} {σ : Nat → Nat} (hi : Inv2 σ) (h : OK σ (prs f g (k + 1))) : Mn f g (k + 1) σ k ↔ σ (f k) = g k := by
  obtain ⟨h0, h1, h2, h3, h4, h5⟩ := h
  constructor
  · intro m
    obtain ⟨i, a, b, c⟩ := m _ (.s _ .refl)
    have : i = k := by omega
    subst this
    rcases c with c | c
    · exact absurd c h1
    · exact c
  · intro e z hz
    have e2 : σ (g k) = f k := by rw [← e, hi]
    refine ⟨k, by omega, by omega, ?_⟩
    induction hz with
    | refl => exact .inl rfl
    | s v _ ih => rcases ih with rfl | rfl
                  · exact .inr e
                  · exact .inl e2
    | t v _ ih => rcases ih with rfl | rfl
                  · exact .inr (tau_fst _ _ _)
                  · exact .inl (tau_snd _ h0)
theorem glue_count (f g : Nat → Nat) (k : Nat) : ∀ σ : Nat → Nat, Inv2 σ → OK σ (prs f g k) → (glue (prs f g k) σ).2 = cntP (Mn f g k σ) k := by
  induction k with
  | zero => intro σ _ _; rfl
  | succ k ih =>
    intro σ hi h
    have h' := h
    obtain ⟨h0, h1, h2, h3, h4, h5⟩ := h'
    have e := ih _ (con_inv hi h1 h2 h0) (h5.con hi h0 h3 h4)
    simp only [prs, glue, cntP]
    rw [e, cntP_congr k (fun i hik => (mn_con hi h hik).symm)]
    congr 1
    unfold lp
    by_cases c : σ (f k) = g k
    · rw [if_pos c, if_pos ((mn_self hi h).2 c)]
    · rw [if_neg c, if_neg (fun d => c ((mn_self hi h).1 d))]
/-! ### the order of the pairs -/
theorem glue_perm {l l' : List (Nat × Nat)} (hp : l.Perm l') : ∀ σ : Nat → Nat, Inv2 σ → OK σ l → glue l σ = glue l' σ ∧ OK σ l' := by
  have pp : ∀ {a b : List (Nat × Nat)}, a.Perm b → ∀ z, pts a z ↔ pts b z := fun h z => by
    unfold pts
    constructor
    · rintro ⟨p, m, e⟩; exact ⟨p, h.mem_iff.1 m, e⟩
    · rintro ⟨p, m, e⟩; exact ⟨p, h.mem_iff.2 m, e⟩
  induction hp with
  | nil => intro σ _ h; exact ⟨rfl, h⟩
  | cons p hp ih =>
    intro σ hi h
    obtain ⟨x, y⟩ := p
    obtain ⟨h0, h1, h2, h3, h4, h5⟩ := h
    obtain ⟨e, _⟩ := ih _ (con_inv hi h1 h2 h0) (h5.con hi h0 h3 h4)
    obtain ⟨_, k⟩ := ih σ hi h5
    refine ⟨by simp only [glue]; rw [e], h0, h1, h2, fun d => h3 ((pp hp _).2 d), fun d => h4 ((pp hp _).2 d), k⟩
  | swap p q l =>
    intro σ hi h
    obtain ⟨u, v⟩ := p
    obtain ⟨x, y⟩ := q
    obtain ⟨h0, h1, h2, h3, h4, k0, k1, k2, k3, k4, k5⟩ := h
    simp only [pts_cons, not_or] at h3 h4
    have e1 := lp_comm hi h1 h2 k1 k2 h0 k0 h3.1 h3.2.1 h4.1 h4.2.1
    have e2 : con x y (con u v σ) = con u v (con x y σ) := funext fun z => (con_comm hi h1 h2 k1 k2 h0 k0 h3.1 h3.2.1 h4.1 h4.2.1 z).symm
    refine ⟨?_, k0, k1, k2, ?_, ?_, h0, h1, h2, h3.2.2, h4.2.2, k5⟩
    · simp only [glue]
      rw [e2]
      congr 1
      omega
    · simp only [pts_cons, not_or]; exact ⟨Ne.symm h3.1, Ne.symm h4.1, k3⟩
    · simp only [pts_cons, not_or]; exact ⟨Ne.symm h3.2.1, Ne.symm h4.2.1, k4⟩
  | trans _ _ ih1 ih2 =>
    intro σ hi h
    obtain ⟨e1, k1⟩ := ih1 σ hi h
    obtain ⟨e2, k2⟩ := ih2 σ hi k1
    exact ⟨e1.trans e2, k2⟩
theorem glue_app (l l' : List (Nat × Nat)) : ∀ σ : Nat → Nat, glue (l ++ l') σ = ((glue l' (glue l σ).1).1, (glue l' (glue l σ).1).2 + (glue l σ).2) := by
  induction l with
  | nil => intro σ; simp [glue]
  | cons p l ih =>
    obtain ⟨x, y⟩ := p
    intro σ
    simp only [List.cons_append, glue, ih]
    congr 1
    omega
theorem glue_inv (l : List (Nat × Nat)) : ∀ σ : Nat → Nat, Inv2 σ → OK σ l → Inv2 (glue l σ).1 := by
  induction l with
  | nil => intro σ h _; exact h
  | cons p l ih =>
    obtain ⟨x, y⟩ := p
    intro σ hi h
    obtain ⟨h0, h1, h2, h3, h4, h5⟩ := h
    exact ih _ (con_inv hi h1 h2 h0) (h5.con hi h0 h3 h4)
theorem glue_alive (l : List (Nat × Nat)) : ∀ σ : Nat → Nat, Inv2 σ → OK σ l → ∀ z, ¬ pts l z → σ z ≠ z → (glue l σ).1 z ≠ z := by
  induction l with
  | nil => intro σ _ _ z _ h; exact h
  | cons p l ih =>
    obtain ⟨x, y⟩ := p
    intro σ hi h z hz hs
    obtain ⟨h0, h1, h2, h3, h4, h5⟩ := h
    simp only [pts_cons, not_or] at hz
    exact ih _ (con_inv hi h1 h2 h0) (h5.con hi h0 h3 h4) z hz.2.2 (con_alive hi h0 hz.1 hz.2.1 hs)
theorem con_dead2 {σ : Nat → Nat} {x y z : Nat} (hz : z = x ∨ z = y) : con x y σ z = z := by unfold con; rw [if_pos hz]
theorem glue_dead (l : List (Nat × Nat)) : ∀ σ : Nat → Nat, Inv2 σ → OK σ l → ∀ z, pts l z ∨ σ z = z → (glue l σ).1 z = z := by
  induction l with
  | nil => intro σ _ _ z h; exact h.resolve_left (pts_nil z)
  | cons p l ih =>
    obtain ⟨x, y⟩ := p
    intro σ hi h z hz
    obtain ⟨h0, h1, h2, h3, h4, h5⟩ := h
    refine ih _ (con_inv hi h1 h2 h0) (h5.con hi h0 h3 h4) z ?_
    rcases hz with hz | hz
    · rcases (pts_cons _ _ _ _).1 hz with e | e | e
      · exact .inr (con_dead2 (.inl e))
      · exact .inr (con_dead2 (.inr e))
      · exact .inl e
    · exact .inr (con_dead hi h1 h2 hz)
/-! ### other names -/
/-- σ does with the new names what a does with the old ones below N -/
def Emb (N : Nat) (F a σ : Nat → Nat) : Prop := ∀ z, z < N → a z < N ∧ σ (F z) = F (a z)
theorem con_emb {N : Nat} {F a σ : Nat → Nat} (hF : ∀ u v, u < N → v < N → F u = F v → u = v) (h : Emb N F a σ) {x y : Nat} (hx : x < N) (hy : y < N) : Emb N F (con x y a) (con (F x) (F y) σ) ∧ lp (F x) (F y) σ = lp x y a := by
  have i : ∀ u v, u < N → v < N → (F u = F v ↔ u = v) := fun u v hu hv => ⟨hF u v hu hv, fun e => by rw [e]⟩
  have hxx := h x hx
  have hyy := h y hy
  constructor
  · intro z hz
    have hzz := h z hz
    unfold con
    rw [hxx.2, hyy.2, hzz.2]
    simp only [i z x hz hx, i z y hz hy, i z (a x) hz hxx.1, i z (a y) hz hyy.1]
    grind
  · unfold lp
    rw [hxx.2]
    simp only [i _ y hxx.1 hy]
theorem con_off {σ : Nat → Nat} {x y z : Nat} (h1 : z ≠ x) (h2 : z ≠ y) (h3 : z ≠ σ x) (h4 : z ≠ σ y) : con x y σ z = σ z := by unfold con; grind
theorem glue_emb {N : Nat} {F : Nat → Nat} (hF : ∀ u v, u < N → v < N → F u = F v → u = v) (l : List (Nat × Nat)) : ∀ {a σ : Nat → Nat}, Emb N F a σ → (∀ p ∈ l, p.1 < N ∧ p.2 < N) → Emb N F (glue l a).1 (glue (l.map (fun p => (F p.1, F p.2))) σ).1 ∧ (glue (l.map (fun p => (F p.1, F p.2))) σ).2 = (glue l a).2 := by
  induction l with
  | nil => intro a σ h _; exact ⟨h, rfl⟩
  | cons p l ih =>
    obtain ⟨x, y⟩ := p
    intro a σ h hl
    have hxy := hl (x, y) List.mem_cons_self
    obtain ⟨h1, h2⟩ := con_emb hF h hxy.1 hxy.2
    obtain ⟨h3, h4⟩ := ih h1 (fun p hp => hl p (List.mem_cons_of_mem _ hp))
    simp only [List.map_cons, glue]
    exact ⟨h3, by rw [h4, h2]⟩
/-- what lies apart stays as it is -/
theorem glue_off (D : Nat → Prop) (l : List (Nat × Nat)) : ∀ {σ : Nat → Nat}, (∀ z, D z → D (σ z)) → Inv2 σ → OK σ l → (∀ p ∈ l, ¬ D p.1 ∧ ¬ D p.2) → ∀ z, D z → (glue l σ).1 z = σ z := by
  induction l with
  | nil => intro σ _ _ _ _ z _; rfl
  | cons p l ih =>
    obtain ⟨x, y⟩ := p
    intro σ hD hi h hl z hz
    obtain ⟨h0, h1, h2, h3, h4, h5⟩ := h
    have hxy := hl (x, y) List.mem_cons_self
    have e : ∀ z, D z → con x y σ z = σ z := fun z hz => by
      refine con_off (fun e => hxy.1 (e ▸ hz)) (fun e => hxy.2 (e ▸ hz)) (fun e => hxy.1 ?_) (fun e => hxy.2 ?_)
      · have := hD z hz; rw [e, hi] at this; exact this
      · have := hD z hz; rw [e, hi] at this; exact this
    simp only [glue]
    rw [ih (fun z hz => by rw [e z hz]; exact hD z hz) (con_inv hi h1 h2 h0) (h5.con hi h0 h3 h4) (fun p hp => hl p (List.mem_cons_of_mem _ hp)) z hz, e z hz]
theorem con_swap {σ : Nat → Nat} (x y : Nat) (hi : Inv2 σ) (xy : x ≠ y) : con x y σ = con y x σ ∧ lp x y σ = lp y x σ := by
  have h1 := hi x
  have h2 := hi y
  have hj : ∀ a b, σ a = σ b → a = b := fun a b => hi.inj
  constructor
  · funext z; unfold con; grind
  · unfold lp; grind
/-! ### without crossings -/
/-- do the pairs u v and p q cross, on a line -/
def crs (ps : Nat → Nat) (u v p q : Nat) : Bool := (decide (ps p < ps u) ^^ decide (ps q < ps u)) ^^ (decide (ps p < ps v) ^^ decide (ps q < ps v))
def NC (ps σ : Nat → Nat) : Prop := ∀ u p, σ u ≠ u → σ p ≠ p → p ≠ u → p ≠ σ u → crs ps u (σ u) p (σ p) = false
theorem crs_swap (ps : Nat → Nat) (u v p q : Nat) (h1 : ps u ≠ ps p) (h2 : ps u ≠ ps q) (h3 : ps v ≠ ps p) (h4 : ps v ≠ ps q) : crs ps u v p q = crs ps p q u v := by
  have e : ∀ a b, ps a ≠ ps b → decide (ps b < ps a) = !decide (ps a < ps b) := fun a b h => by
    by_cases c : ps a < ps b
    · rw [decide_eq_true c, decide_eq_false (by omega)]; rfl
    · rw [decide_eq_false c, decide_eq_true (by omega)]; rfl
  unfold crs
  rw [e u p h1, e u q h2, e v p h3, e v q h4]
  cases decide (ps u < ps p) <;> cases decide (ps u < ps q) <;> cases decide (ps v < ps p) <;> cases decide (ps v < ps q) <;> rfl
theorem xor6 : ∀ y1 x1 z1 y2 x2 z2 : Bool, ((y1 ^^ x1) ^^ (y2 ^^ x2)) = false → ((y1 ^^ z1) ^^ (y2 ^^ z2)) = false → ((x1 ^^ z1) ^^ (x2 ^^ z2)) = false := by decide
theorem xor4 : ∀ x1 z1 x2 z2 : Bool, ((x1 ^^ z1) ^^ (x2 ^^ z2)) = false → ((z1 ^^ x1) ^^ (z2 ^^ x2)) = false := by decide
theorem con_nc {ps σ : Nat → Nat} {x y : Nat} (hi : Inv2 σ) (hx : σ x ≠ x) (hy : σ y ≠ y) (xy : x ≠ y) (hps : ∀ u v, σ u ≠ u → σ v ≠ v → ps u = ps v → u = v) (h : NC ps σ) (ha : ∀ z, σ z ≠ z → z ≠ x → z ≠ y → (ps x < ps z ↔ ps y < ps z)) : NC ps (con x y σ) := by
  have i1 := hi x
  have i2 := hi y
  have hj : ∀ a b, σ a = σ b → a = b := fun a b => hi.inj
  have key : ∀ u, σ u ≠ u → u ≠ x → u ≠ y → σ u ≠ x → σ u ≠ y → σ x ≠ y → crs ps u (σ u) (σ x) (σ y) = false := by
    intro u hu ux uy vx vy xy'
    have a1 := ha u hu ux uy
    have a2 := ha (σ u) (by rw [hi u]; exact Ne.symm hu) vx vy
    have n1 := h u x hu hx (Ne.symm ux) (Ne.symm vx)
    have n2 := h u y hu hy (Ne.symm uy) (Ne.symm vy)
    unfold crs at n1 n2 ⊢
    rw [decide_eq_decide.2 a1, decide_eq_decide.2 a2] at n1
    exact xor6 _ _ _ _ _ _ n1 n2
  have key2 : ∀ u, σ u ≠ u → u ≠ x → u ≠ y → σ u ≠ x → σ u ≠ y → σ x ≠ y → crs ps u (σ u) (σ y) (σ x) = false := by
    intro u a b c d e f
    have := key u a b c d e f
    unfold crs at this ⊢
    exact xor4 _ _ _ _ this
  have sw : ∀ u p q, σ u ≠ u → σ p ≠ p → σ q ≠ q → u ≠ p → u ≠ q → σ u ≠ p → σ u ≠ q → crs ps u (σ u) p q = false → crs ps p q u (σ u) = false := by
    intro u p q hu hp hq a b c d e
    have hu' : σ (σ u) ≠ σ u := by rw [hi u]; exact Ne.symm hu
    rw [← crs_swap ps u (σ u) p q (fun f => a (hps _ _ hu hp f)) (fun f => b (hps _ _ hu hq f)) (fun f => c (hps _ _ hu' hp f)) (fun f => d (hps _ _ hu' hq f))]
    exact e
  intro u p hu hp pu pv
  have hsx : σ (σ x) ≠ σ x := by rw [i1]; exact Ne.symm hx
  have hsy : σ (σ y) ≠ σ y := by rw [i2]; exact Ne.symm hy
  have dead : ∀ z, con x y σ z ≠ z → z ≠ x ∧ z ≠ y ∧ σ z ≠ z := by
    intro z hz; unfold con at hz; grind
  obtain ⟨ux, uy, hu'⟩ := dead u hu
  obtain ⟨px, py, hp'⟩ := dead p hp
  have val : ∀ z, z ≠ x → z ≠ y → (z = σ x ∧ con x y σ z = σ y) ∨ (z = σ y ∧ z ≠ σ x ∧ con x y σ z = σ x) ∨ (z ≠ σ x ∧ z ≠ σ y ∧ con x y σ z = σ z) := by
    intro z a b; unfold con; grind
  have iu := hi u
  have ip := hi p
  rcases val u ux uy with ⟨eu, cu⟩ | ⟨eu, eu2, cu⟩ | ⟨eu, eu2, cu⟩
  · rcases val p px py with ⟨ep, cp⟩ | ⟨ep, ep2, cp⟩ | ⟨ep, ep2, cp⟩
    · exact absurd (ep.trans eu.symm) pu
    · exact absurd (ep.trans cu.symm) pv
    · rw [cu, cp, eu]
      refine sw p (σ x) (σ y) hp' hsx hsy ep ep2 (fun e => ?_) (fun e => ?_) (key p hp' px py (fun e => ?_) (fun e => ?_) (fun e => ?_)) <;> grind
  · rcases val p px py with ⟨ep, cp⟩ | ⟨ep, ep2, cp⟩ | ⟨ep, ep2, cp⟩
    · exact absurd (ep.trans cu.symm) pv
    · exact absurd (ep.trans eu.symm) pu
    · rw [cu, cp, eu]
      refine sw p (σ y) (σ x) hp' hsy hsx ep2 ep (fun e => ?_) (fun e => ?_) (key2 p hp' px py (fun e => ?_) (fun e => ?_) (fun e => ?_)) <;> grind
  · rcases val p px py with ⟨ep, cp⟩ | ⟨ep, ep2, cp⟩ | ⟨ep, ep2, cp⟩
    · rw [cu, cp, ep]
      refine key u hu' ux uy (fun e => ?_) (fun e => ?_) (fun e => ?_) <;> grind
    · rw [cu, cp, ep]
      refine key2 u hu' ux uy (fun e => ?_) (fun e => ?_) (fun e => ?_) <;> grind
    · rw [cu, cp]
      rw [cu] at pv
      exact h u p hu' hp' pu pv
/-- each pair lies next to each other, when its turn comes -/
def Adjs (ps : Nat → Nat) : List (Nat × Nat) → (Nat → Nat) → Prop
  | [], _ => True
  | (x, y) :: l, σ => (∀ z, σ z ≠ z → z ≠ x → z ≠ y → (ps x < ps z ↔ ps y < ps z)) ∧ Adjs ps l (con x y σ)
theorem glue_nc {ps : Nat → Nat} (l : List (Nat × Nat)) : ∀ {σ : Nat → Nat}, Inv2 σ → OK σ l → (∀ u v, σ u ≠ u → σ v ≠ v → ps u = ps v → u = v) → NC ps σ → Adjs ps l σ → NC ps (glue l σ).1 := by
  induction l with
  | nil => intro σ _ _ _ h _; exact h
  | cons p l ih =>
    obtain ⟨x, y⟩ := p
    intro σ hi h hps hn ha
    obtain ⟨h0, h1, h2, h3, h4, h5⟩ := h
    have dead : ∀ z, con x y σ z ≠ z → σ z ≠ z := by
      intro z hz e; exact hz (con_dead hi h1 h2 e)
    exact ih (con_inv hi h1 h2 h0) (h5.con hi h0 h3 h4) (fun u v a b => hps u v (dead u a) (dead v b)) (con_nc hi h1 h2 h0 hps hn ha.1) ha.2
/-! ### the pigeon-hole -/
theorem pigeon : ∀ (n : Nat) (f : Nat → Nat), (∀ i, i ≤ n → f i < n) → ∃ i j, i < j ∧ j ≤ n ∧ f i = f j := by
  intro n
  induction n with
  | zero => intro f h; have := h 0 (Nat.le_refl _); omega
  | succ n ih =>
    intro f h
    by_cases c : ∃ i, i ≤ n ∧ f i = f (n + 1)
    · obtain ⟨i, a, b⟩ := c; exact ⟨i, n + 1, by omega, Nat.le_refl _, b⟩
    · obtain ⟨i, j, a, b, e⟩ := ih (fun i => if f i = n then f (n + 1) else f i) (fun i hi => by
        have h1 := h i (by omega)
        have h2 := h (n + 1) (Nat.le_refl _)
        show (if f i = n then f (n + 1) else f i) < n
        by_cases d : f i = n
        · rw [if_pos d]
          have : f (n + 1) ≠ n := fun e => c ⟨i, hi, by rw [d, e]⟩
          omega
        · rw [if_neg d]; omega)
      refine ⟨i, j, a, by omega, ?_⟩
      have e : (if f i = n then f (n + 1) else f i) = if f j = n then f (n + 1) else f j := e
      by_cases d1 : f i = n <;> by_cases d2 : f j = n
      · rw [d1, d2]
      · rw [if_pos d1, if_neg d2] at e; exact absurd ⟨j, b, e.symm⟩ c
      · rw [if_neg d1, if_pos d2] at e; exact absurd ⟨i, by omega, e⟩ c
      · rw [if_neg d1, if_neg d2] at e; exact e
/-- the same number of times -/
def itr (f : Nat → Nat) : Nat → Nat → Nat
  | 0, z => z
  | k + 1, z => itr f k (f z)
theorem itr_succ (f : Nat → Nat) (k : Nat) : ∀ z, itr f (k + 1) z = f (itr f k z) := by
  induction k with
  | zero => intro z; rfl
  | succ k ih => intro z; rw [itr, ih (f z)]; rfl
/-- a walk that begins outside of a set of N points, by steps that lead no two points to one, does not stay in it -/
theorem leaves {f : Nat → Nat} (hf : ∀ a b, f a = f b → a = b) (S : Nat → Prop) (c : Nat → Nat) (N : Nat) (hc : ∀ z, S z → c z < N) (hci : ∀ u v, S u → S v → c u = c v → u = v) (p : Nat) (hp : ¬ S p) : ∃ k, k ≤ N ∧ ¬ S (itr f (k + 1) p) ∧ ∀ i, i < k → S (itr f (i + 1) p) := by
  have h : ∃ k, k ≤ N ∧ ¬ S (itr f (k + 1) p) := by
    refine Classical.byContradiction fun hn => ?_
    have hS : ∀ i, i ≤ N → S (itr f (i + 1) p) := fun i hi => Classical.byContradiction fun h => hn ⟨i, hi, h⟩
    obtain ⟨i, j, a, b, e⟩ := pigeon N (fun i => c (itr f (i + 1) p)) (fun i hi => hc _ (hS i hi))
    have e := hci _ _ (hS i (by omega)) (hS j b) e
    have back : ∀ k, itr f k p = itr f (j - i + k) p → p = itr f (j - i) p := by
      intro k
      induction k with
      | zero => intro h; exact h
      | succ k ih => intro h; rw [itr_succ, show j - i + (k + 1) = (j - i + k) + 1 by omega, itr_succ] at h; exact ih (hf _ _ h)
    have e2 := back (i + 1) (by rw [show j - i + (i + 1) = j + 1 by omega]; exact e)
    refine hp ?_
    rw [e2]
    have := hS (j - i - 1) (by omega)
    rwa [show j - i - 1 + 1 = j - i by omega] at this
  obtain ⟨k, h1, h2⟩ := h
  clear hc hci hf
  induction k using Nat.strongRecOn with
  | ind k ih =>
    by_cases c2 : ∃ i, i < k ∧ ¬ S (itr f (i + 1) p)
    · obtain ⟨i, a, b⟩ := c2; exact ih i a (by omega) b
    · exact ⟨k, h1, h2, fun i hi => Classical.byContradiction fun h => c2 ⟨i, hi, h⟩⟩
end Go.Proofs.Ytjfkompfkgjdaaa.G
end
section
/- Orbits of two pairings, and the points on ways: plain. -/
namespace Go.Proofs.Ytjfkompfkgjdaaa.G
/-! ### round and round -/
/-- A pairs the indices of U -/
structure Pairs (U : Nat → Prop) (A : Nat → Nat) : Prop where
  mem : ∀ m, U m → U (A m)
  ne : ∀ m, U m → A m ≠ m
  inv : ∀ m, U m → A (A m) = m
structure Rd (U : Nat → Prop) (A B : Nat → Nat) (T M : Nat → Prop) (i c : Nat) : Prop where
  ui : U i
  uc : U c
  sub : ∀ m, U m → T m → M m
  cA : ∀ m, U m → M m → M (A m)
  cB : ∀ m, U m → M m → m ≠ i → m ≠ B c → M (B m) ∧ B m ≠ i ∧ B m ≠ B c
  st : (c = i ∧ ¬ M i ∧ ¬ M (B i)) ∨ (M i ∧ M (B c) ∧ B c ≠ i)
  low : ∀ m, U m → M m → T m ∨ Conn A B i m
  cc : Conn A B i c
theorem Rd.start {U : Nat → Prop} {A B : Nat → Nat} {T : Nat → Prop} (hA : Pairs U A) (hB : Pairs U B) (tA : ∀ m, U m → T m → T (A m)) (tB : ∀ m, U m → T m → T (B m)) {i : Nat} (ui : U i) (hi : ¬ T i) : Rd U A B T T i i := by
  refine ⟨ui, ui, fun _ _ h => h, tA, fun m um h mi mb => ⟨tB m um h, fun e => ?_, fun e => ?_⟩, .inl ⟨rfl, hi, fun e => hi (by have := tB _ (hB.mem i ui) e; rwa [hB.inv i ui] at this)⟩, fun _ _ h => .inl h, .refl⟩
  · exact hi (e ▸ tB m um h)
  · have h1 := hB.inv m um
    rw [e, hB.inv i ui] at h1
    exact mi h1.symm
theorem Rd.step {U : Nat → Prop} {A B : Nat → Nat} {T M M' : Nat → Prop} {i c : Nat} (hA : Pairs U A) (hB : Pairs U B) (h : Rd U A B T M i c) (hc : ¬ M c) (hM : ∀ m, U m → (M' m ↔ M m ∨ m = c ∨ m = A c)) : Rd U A B T M' i (B (A c)) := by
  have uAc := hA.mem c h.uc
  have uBc := hB.mem c h.uc
  have a1 : ¬ M (A c) := fun e => hc (by have := h.cA _ uAc e; rwa [hA.inv c h.uc] at this)
  have a2 := hA.inv c h.uc
  have a3 := hA.ne c h.uc
  have b1 := hB.inv c h.uc
  have b2 := hB.inv (A c) uAc
  have nAi : A c ≠ i := by
    rcases h.st with ⟨e, _⟩ | ⟨e, _, _⟩
    · exact fun f => a3 (f.trans e.symm)
    · exact fun f => a1 (f ▸ e)
  refine ⟨h.ui, hB.mem _ uAc, fun m um t => (hM m um).2 (.inl (h.sub m um t)), fun m um hm => ?_, fun m um hm mi mb => ?_, .inr ⟨?_, ?_, ?_⟩, fun m um hm => ?_, ?_⟩
  · refine (hM _ (hA.mem m um)).2 ?_
    rcases (hM m um).1 hm with e | e | e
    · exact .inl (h.cA m um e)
    · exact .inr (.inr (by rw [e]))
    · exact .inr (.inl (by rw [e, a2]))
  · rw [b2] at mb
    have bm := hB.mem m um
    rcases (hM m um).1 hm with e | e | e
    · by_cases d : m = B c
      · subst d
        rw [b1]
        rcases h.st with ⟨f, g⟩ | ⟨f, g, k⟩
        · exact absurd (f ▸ e) g.2
        · exact ⟨(hM c h.uc).2 (.inr (.inl rfl)), fun q => hc (q ▸ f), fun q => a3 (by rw [b2] at q; exact q.symm)⟩
      · obtain ⟨f, g, k⟩ := h.cB m um e mi d
        exact ⟨(hM _ bm).2 (.inl f), g, fun q => a1 (by rw [b2] at q; exact q ▸ f)⟩
    · subst e
      rcases h.st with ⟨f, _⟩ | ⟨f, g, k⟩
      · exact absurd f mi
      · exact ⟨(hM _ bm).2 (.inl g), k, fun q => a1 (by rw [b2] at q; exact q ▸ g)⟩
    · exact absurd e mb
  · rcases h.st with ⟨e, _⟩ | ⟨e, _, _⟩
    · exact (hM i h.ui).2 (.inr (.inl e.symm))
    · exact (hM i h.ui).2 (.inl e)
  · rw [b2]; exact (hM _ uAc).2 (.inr (.inr rfl))
  · rw [b2]; exact nAi
  · rcases (hM m um).1 hm with e | e | e
    · exact h.low m um e
    · subst e; exact .inr h.cc
    · subst e; exact .inr (.s _ h.cc)
  · exact .t _ (.s _ h.cc)
theorem Rd.fin {U : Nat → Prop} {A B : Nat → Nat} {T M : Nat → Prop} {i c : Nat} (hA : Pairs U A) (hB : Pairs U B) (h : Rd U A B T M i c) (hc : M c) : ∀ m, U m → (M m ↔ T m ∨ Conn A B i m) := by
  have b1 := hB.inv c h.uc
  have st := h.st
  have ci : c = i := by
    refine Classical.byContradiction fun n => ?_
    rcases st with ⟨e, _⟩ | ⟨e, g, k⟩
    · exact n e
    · exact (h.cB c h.uc hc n (Ne.symm (hB.ne c h.uc))).2.2 rfl
  have hi : M i ∧ M (B c) := by
    rcases st with ⟨e, f⟩ | ⟨e, g, k⟩
    · exact absurd (ci ▸ hc) f.1
    · exact ⟨e, g⟩
  have cB : ∀ m, U m → M m → M (B m) := by
    intro m um hm
    by_cases e : m = i
    · rw [e, ← ci]; exact hi.2
    · by_cases f : m = B c
      · rw [f, b1]; exact hc
      · exact (h.cB m um hm e f).1
  have all : ∀ m, Conn A B i m → U m ∧ M m := by
    intro m hm
    induction hm with
    | refl => exact ⟨h.ui, hi.1⟩
    | s y _ ih => exact ⟨hA.mem y ih.1, h.cA y ih.1 ih.2⟩
    | t y _ ih => exact ⟨hB.mem y ih.1, cB y ih.1 ih.2⟩
  intro m um
  exact ⟨h.low m um, fun e => e.elim (h.sub m um) (fun e => (all m e).2)⟩
/-- the index is the first of its curve -/
def Fst (U : Nat → Prop) (A B : Nat → Nat) (i : Nat) : Prop := U i ∧ ∀ j, j < i → U j → ¬ Conn A B j i
/-- what is met before index i is looked at -/
def MetI (U : Nat → Prop) (A B : Nat → Nat) (i : Nat) (T : Nat → Prop) : Prop := ∀ m, U m → (T m ↔ ∃ j, j < i ∧ U j ∧ Conn A B j m)
theorem MetI.closed {U : Nat → Prop} {A B : Nat → Nat} {i : Nat} {T : Nat → Prop} (hA : Pairs U A) (hB : Pairs U B) (h : MetI U A B i T) : (∀ m, U m → T m → T (A m)) ∧ (∀ m, U m → T m → T (B m)) := by
  refine ⟨fun m um t => ?_, fun m um t => ?_⟩
  · obtain ⟨j, a, b, c⟩ := (h m um).1 t; exact (h _ (hA.mem m um)).2 ⟨j, a, b, .s _ c⟩
  · obtain ⟨j, a, b, c⟩ := (h m um).1 t; exact (h _ (hB.mem m um)).2 ⟨j, a, b, .t _ c⟩
theorem MetI.skip {U : Nat → Prop} {A B : Nat → Nat} {i : Nat} {T : Nat → Prop} (h : MetI U A B i T) (hi : U i → T i) : MetI U A B (i + 1) T ∧ ¬ Fst U A B i := by
  constructor
  · intro m um
    refine ⟨fun t => ?_, fun ⟨j, a, b, c⟩ => ?_⟩
    · obtain ⟨j, a, b, c⟩ := (h m um).1 t; exact ⟨j, by omega, b, c⟩
    · by_cases e : j = i
      · subst e
        obtain ⟨j', a', b', c'⟩ := (h j b).1 (hi b)
        exact (h m um).2 ⟨j', a', b', c'.trans c⟩
      · exact (h m um).2 ⟨j, by omega, b, c⟩
  · intro ⟨ui, hf⟩
    obtain ⟨j, a, b, c⟩ := (h i ui).1 (hi ui)
    exact hf j a b c
theorem MetI.round {U : Nat → Prop} {A B : Nat → Nat} {i : Nat} {T T' : Nat → Prop} (h : MetI U A B i T) (ui : U i) (hi : ¬ T i) (hT : ∀ m, U m → (T' m ↔ T m ∨ Conn A B i m)) : MetI U A B (i + 1) T' ∧ Fst U A B i := by
  constructor
  · intro m um
    rw [hT m um]
    refine ⟨fun t => ?_, fun ⟨j, a, b, c⟩ => ?_⟩
    · rcases t with t | t
      · obtain ⟨j, a, b, c⟩ := (h m um).1 t; exact ⟨j, by omega, b, c⟩
      · exact ⟨i, by omega, ui, t⟩
    · by_cases e : j = i
      · exact .inr (e ▸ c)
      · exact .inl ((h m um).2 ⟨j, by omega, b, c⟩)
  · exact ⟨ui, fun j a b c => hi ((h i ui).2 ⟨j, a, b, c⟩)⟩
theorem Conn.swap {σ τ : Nat → Nat} {x y : Nat} (h : Conn σ τ x y) : Conn τ σ x y := by
  induction h with
  | refl => exact .refl
  | s y _ ih => exact .t _ ih
  | t y _ ih => exact .s _ ih
theorem fst_swap {U : Nat → Prop} {A B : Nat → Nat} {i : Nat} : Fst U A B i ↔ Fst U B A i := ⟨fun h => ⟨h.1, fun j a b c => h.2 j a b c.swap⟩, fun h => ⟨h.1, fun j a b c => h.2 j a b c.swap⟩⟩
/-! ### along the ways -/
structure W0 (σ τ : Nat → Nat) (mid P M : Nat → Prop) : Prop where
  cl : ∀ u, ((mid u ∧ M u) ∨ (¬ mid u ∧ P u)) → ¬ mid (σ u) ∨ M (σ u)
  ct : ∀ u, mid u → M u → M (τ u)
  low : ∀ u, mid u → M u → ∃ o, ¬ mid o ∧ Conn σ τ o u
structure W1 (σ τ : Nat → Nat) (mid P : Nat → Prop) (p z : Nat) (M : Nat → Prop) : Prop where
  pin : ¬ mid p
  zin : z = p ∨ (mid z ∧ M z)
  cl : ∀ u, ((mid u ∧ M u) ∨ (¬ mid u ∧ (P u ∨ u = p))) → u ≠ z → ¬ mid (σ u) ∨ M (σ u)
  ct : ∀ u, mid u → M u → M (τ u)
  low : ∀ u, mid u → M u → ∃ o, ¬ mid o ∧ Conn σ τ o u
  cz : Conn σ τ p z
theorem W0.start {σ τ : Nat → Nat} {mid P M : Nat → Prop} (h : W0 σ τ mid P M) {p : Nat} (hp : ¬ mid p) : W1 σ τ mid P p p M := by
  refine ⟨hp, .inl rfl, fun u hu ne => ?_, h.ct, h.low, .refl⟩
  rcases hu with hu | ⟨a, b⟩
  · exact h.cl u (.inl hu)
  · exact h.cl u (.inr ⟨a, b.resolve_right ne⟩)
theorem W1.step {σ τ : Nat → Nat} {mid P M M' : Nat → Prop} {p z : Nat} (hs : Inv2 σ) (ht : Inv2 τ) (tm : ∀ u, mid u → mid (τ u)) (h : W1 σ τ mid P p z M) (hz : mid (σ z)) (hM : ∀ u, mid u → (M' u ↔ M u ∨ u = σ z ∨ u = τ (σ z))) : W1 σ τ mid P p (τ (σ z)) M' := by
  have up : ∀ u, mid u → M u → M' u := fun u a b => (hM u a).2 (.inl b)
  refine ⟨h.pin, .inr ⟨tm _ hz, (hM _ (tm _ hz)).2 (.inr (.inr rfl))⟩, fun u hu ne => ?_, fun u um hu => ?_, fun u um hu => ?_, .t _ (.s _ h.cz)⟩
  · have old : ((mid u ∧ M u) ∨ (¬ mid u ∧ (P u ∨ u = p))) → ¬ mid (σ u) ∨ M' (σ u) := by
      intro q
      by_cases e : u = z
      · rw [e]; exact .inr ((hM _ hz).2 (.inr (.inl rfl)))
      · by_cases m : mid (σ u)
        · exact .inr (up _ m ((h.cl u q e).resolve_left (fun f => f m)))
        · exact .inl m
    rcases hu with ⟨um, hu⟩ | hu
    · rcases (hM u um).1 hu with e | e | e
      · exact old (.inl ⟨um, e⟩)
      · rw [e, hs z]
        rcases h.zin with f | ⟨f, g⟩
        · exact .inl (f ▸ h.pin)
        · exact .inr (up _ f g)
      · exact absurd e ne
    · exact old (.inr hu)
  · refine (hM _ (tm u um)).2 ?_
    rcases (hM u um).1 hu with e | e | e
    · exact .inl (h.ct u um e)
    · exact .inr (.inr (by rw [e]))
    · exact .inr (.inl (by rw [e, ht]))
  · rcases (hM u um).1 hu with e | e | e
    · exact h.low u um e
    · exact ⟨p, h.pin, e ▸ .s _ h.cz⟩
    · exact ⟨p, h.pin, e ▸ .t _ (.s _ h.cz)⟩
theorem W1.fin {σ τ : Nat → Nat} {mid P M : Nat → Prop} {p z : Nat} (h : W1 σ τ mid P p z M) (hz : ¬ mid (σ z)) : W0 σ τ mid (fun u => P u ∨ u = p) M := by
  refine ⟨fun u hu => ?_, h.ct, h.low⟩
  by_cases e : u = z
  · rw [e]; exact .inl hz
  · exact h.cl u hu e
theorem W0.all {σ τ : Nat → Nat} {mid P M : Nat → Prop} (h : W0 σ τ mid P M) (tout : ∀ u, ¬ mid u → τ u = u) (hP : ∀ u, ¬ mid u → P u ∨ σ u = u) : ∀ u, mid u → (M u ↔ ∃ o, ¬ mid o ∧ Conn σ τ o u) := by
  intro u um
  refine ⟨h.low u um, fun ⟨o, ho, hc⟩ => ?_⟩
  have all : ∀ v, Conn σ τ o v → ¬ mid v ∨ M v := by
    intro v hv
    induction hv with
    | refl => exact .inl ho
    | s y _ ih =>
      by_cases my : mid y
      · exact h.cl y (.inl ⟨my, ih.resolve_left (fun e => e my)⟩)
      · rcases hP y my with a | a
        · exact h.cl y (.inr ⟨my, a⟩)
        · rw [a]; exact .inl my
    | t y _ ih =>
      by_cases my : mid y
      · exact .inr (h.ct y my (ih.resolve_left (fun e => e my)))
      · rw [tout y my]; exact .inl my
  exact (all u hc).resolve_left (fun e => e um)
/-! ### indices and points -/
theorem tau_prs {f g : Nat → Nat} {σ : Nat → Nat} (k : Nat) : OK σ (prs f g k) → ∀ j, j < k → tau (prs f g k) (f j) = g j ∧ tau (prs f g k) (g j) = f j := by
  induction k with
  | zero => intro _ j hj; omega
  | succ k ih =>
    intro h j hj
    have h' := h
    obtain ⟨h0, h1, h2, h3, h4, h5⟩ := h'
    by_cases e : j = k
    · subst e; exact ⟨tau_fst _ _ _, tau_snd _ h0⟩
    · have hjk : j < k := by omega
      obtain ⟨a, b⟩ := ih h5 j hjk
      have p1 : pts (prs f g k) (f j) := (pts_prs _ _ _ _).2 ⟨j, hjk, .inl rfl⟩
      have p2 : pts (prs f g k) (g j) := (pts_prs _ _ _ _).2 ⟨j, hjk, .inr rfl⟩
      have q1 : f j ≠ f k := fun e => h3 (e ▸ p1)
      have q2 : f j ≠ g k := fun e => h4 (e ▸ p1)
      have q3 : g j ≠ f k := fun e => h3 (e ▸ p2)
      have q4 : g j ≠ g k := fun e => h4 (e ▸ p2)
      simp only [prs, tau]
      rw [if_neg q1, if_neg q2, if_neg q3, if_neg q4]
      exact ⟨a, b⟩
/-- the indices whose curves stay within the pairs, and the steps from one to another -/
structure Ixs (f g : Nat → Nat) (k : Nat) (σ : Nat → Nat) (U : Nat → Prop) (A B : Nat → Nat) : Prop where
  lt : ∀ m, U m → m < k
  u : ∀ m, m < k → (U m ↔ ∀ z, Conn σ (tau (prs f g k)) (f m) z → pts (prs f g k) z)
  sA : ∀ m, U m → U (A m) ∧ σ (f m) = f (A m)
  sB : ∀ m, U m → U (B m) ∧ σ (g m) = g (B m)
theorem Ixs.conn {f g : Nat → Nat} {k : Nat} {σ : Nat → Nat} {U : Nat → Prop} {A B : Nat → Nat} (h : Ixs f g k σ U A B) (ho : OK σ (prs f g k)) {j : Nat} (uj : U j) {z : Nat} (hz : Conn σ (tau (prs f g k)) (f j) z) : ∃ i, U i ∧ Conn A B j i ∧ (z = f i ∨ z = g i) := by
  induction hz with
  | refl => exact ⟨j, uj, .refl, .inl rfl⟩
  | s y _ ih =>
    obtain ⟨i, a, b, c⟩ := ih
    rcases c with c | c
    · have := h.sA i a; exact ⟨A i, this.1, .s _ b, .inl (by rw [c]; exact this.2)⟩
    · have := h.sB i a; exact ⟨B i, this.1, .t _ b, .inr (by rw [c]; exact this.2)⟩
  | t y _ ih =>
    obtain ⟨i, a, b, c⟩ := ih
    have := tau_prs k ho i (h.lt i a)
    rcases c with c | c
    · exact ⟨i, a, b, .inr (by rw [c]; exact this.1)⟩
    · exact ⟨i, a, b, .inl (by rw [c]; exact this.2)⟩
theorem Ixs.back {f g : Nat → Nat} {k : Nat} {σ : Nat → Nat} {U : Nat → Prop} {A B : Nat → Nat} (h : Ixs f g k σ U A B) (ho : OK σ (prs f g k)) {j i : Nat} (uj : U j) (hz : Conn A B j i) : U i ∧ Conn σ (tau (prs f g k)) (f j) (f i) := by
  induction hz with
  | refl => exact ⟨uj, .refl⟩
  | s y _ ih =>
    have := h.sA y ih.1
    exact ⟨this.1, this.2 ▸ .s _ ih.2⟩
  | t y _ ih =>
    have e := h.sB y ih.1
    have t1 := tau_prs k ho y (h.lt y ih.1)
    have t2 := tau_prs k ho (B y) (h.lt _ e.1)
    refine ⟨e.1, ?_⟩
    have := Conn.t _ (Conn.s _ (Conn.t _ ih.2))
    rwa [t1.1, e.2, t2.2] at this
theorem prs_ne {f g : Nat → Nat} {σ : Nat → Nat} (k : Nat) : OK σ (prs f g k) → ∀ i j, i < k → j < k → (f i = f j → i = j) ∧ f i ≠ g j ∧ (g i = g j → i = j) := by
  induction k with
  | zero => intro _ i j hi; omega
  | succ k ih =>
    intro h i j hi hj
    obtain ⟨h0, h1, h2, h3, h4, h5⟩ := h
    have p1 : ∀ i, i < k → f i ≠ f k ∧ g i ≠ f k ∧ f i ≠ g k ∧ g i ≠ g k := fun i hi => by
      have a : pts (prs f g k) (f i) := (pts_prs _ _ _ _).2 ⟨i, hi, .inl rfl⟩
      have b : pts (prs f g k) (g i) := (pts_prs _ _ _ _).2 ⟨i, hi, .inr rfl⟩
      exact ⟨fun e => h3 (e ▸ a), fun e => h3 (e ▸ b), fun e => h4 (e ▸ a), fun e => h4 (e ▸ b)⟩
    by_cases ei : i = k
    · by_cases ej : j = k
      · subst ei; subst ej; exact ⟨fun _ => rfl, h0, fun _ => rfl⟩
      · have := p1 j (by omega)
        subst ei
        exact ⟨fun e => absurd e.symm this.1, fun e => this.2.1 e.symm, fun e => absurd e.symm this.2.2.2⟩
    · have p := p1 i (by omega)
      by_cases ej : j = k
      · subst ej
        exact ⟨fun e => absurd e p.1, p.2.2.1, fun e => absurd e p.2.2.2⟩
      · exact ih h5 i j (by omega) (by omega)
theorem Ixs.symm {f g : Nat → Nat} {k : Nat} {σ : Nat → Nat} {U : Nat → Prop} {A B : Nat → Nat} (h : Ixs f g k σ U A B) (hi : Inv2 σ) (ho : OK σ (prs f g k)) {j i : Nat} (uj : U j) (hz : Conn A B j i) : Conn A B i j := by
  obtain ⟨ui, c⟩ := h.back ho uj hz
  obtain ⟨j', _, d, e⟩ := h.conn ho ui (c.symm hi (tau_inv ho))
  rename_i uj'
  have n := prs_ne k ho j j' (h.lt j uj) (h.lt j' uj')
  rcases e with e | e
  · rw [n.1 e]; exact d
  · exact absurd e n.2.1
theorem Ixs.mn {f g : Nat → Nat} {k : Nat} {σ : Nat → Nat} {U : Nat → Prop} {A B : Nat → Nat} (h : Ixs f g k σ U A B) (hi : Inv2 σ) (ho : OK σ (prs f g k)) {j : Nat} (hj : j < k) : Mn f g k σ j ↔ Fst U A B j := by
  constructor
  · intro m
    have uj : U j := (h.u j hj).2 (fun z hz => by obtain ⟨i, _, b, c⟩ := m z hz; exact (pts_prs _ _ _ _).2 ⟨i, b, c⟩)
    refine ⟨uj, fun i a b c => ?_⟩
    obtain ⟨_, c⟩ := h.back ho b c
    obtain ⟨i', d, e, f⟩ := m _ (c.symm hi (tau_inv ho))
    have n := prs_ne k ho i i' (by omega) e
    rcases f with f | f
    · have := n.1 f; omega
    · exact n.2.1 f
  · intro ⟨uj, hfst⟩ z hz
    obtain ⟨i, a, b, c⟩ := h.conn ho uj hz
    refine ⟨i, ?_, h.lt i a, c⟩
    refine Classical.byContradiction fun n => ?_
    exact hfst i (by omega) a (h.symm hi ho uj b)
end Go.Proofs.Ytjfkompfkgjdaaa.G
end
section
/- Two matchings, one on top of the other, glued along the middle: plain. -/
namespace Go.Proofs.Ytjfkompfkgjdaaa.G
/-! ### two matchings, one on top of the other -/
/-- a matching of 2 n points -/
def Mat (n : Nat) (a : Nat → Nat) : Prop := ∀ z, z < 2 * n → a z < 2 * n ∧ a z ≠ z ∧ a (a z) = z
def jn (n : Nat) (a b : Nat → Nat) (z : Nat) : Nat := if z < 2 * n then a z else if z < 4 * n then 2 * n + b (z - 2 * n) else z
def up (n m : Nat) : Nat := n + m
def dn (n m : Nat) : Nat := 2 * n + m
def mids (n : Nat) : List (Nat × Nat) := prs (up n) (dn n) n
theorem jn_lo {n : Nat} {a b : Nat → Nat} {z : Nat} (h : z < 2 * n) : jn n a b z = a z := by unfold jn; rw [if_pos h]
theorem jn_hi {n : Nat} {a b : Nat → Nat} {z : Nat} (h : z < 2 * n) : jn n a b (2 * n + z) = 2 * n + b z := by
  unfold jn; rw [if_neg (by omega), if_pos (by omega), Nat.add_sub_cancel_left]
theorem jn_off {n : Nat} {a b : Nat → Nat} {z : Nat} (h : 4 * n ≤ z) : jn n a b z = z := by unfold jn; rw [if_neg (by omega), if_neg (by omega)]
theorem jn_cases {n z : Nat} : z < 2 * n ∨ (∃ y, y < 2 * n ∧ z = 2 * n + y) ∨ 4 * n ≤ z := by
  by_cases c : z < 2 * n
  · exact .inl c
  · by_cases d : z < 4 * n
    · exact .inr (.inl ⟨z - 2 * n, by omega, by omega⟩)
    · exact .inr (.inr (by omega))
theorem jn_inv {n : Nat} {a b : Nat → Nat} (ha : Mat n a) (hb : Mat n b) : Inv2 (jn n a b) := by
  intro z
  rcases @jn_cases n z with h | ⟨y, h, rfl⟩ | h
  · rw [jn_lo h, jn_lo (ha z h).1, (ha z h).2.2]
  · rw [jn_hi h, jn_hi (hb y h).1, (hb y h).2.2]
  · rw [jn_off h, jn_off h]
theorem jn_alive {n : Nat} {a b : Nat → Nat} (ha : Mat n a) (hb : Mat n b) {z : Nat} : jn n a b z ≠ z ↔ z < 4 * n := by
  rcases @jn_cases n z with h | ⟨y, h, rfl⟩ | h
  · rw [jn_lo h]; exact ⟨fun _ => by omega, fun _ => (ha z h).2.1⟩
  · rw [jn_hi h]; exact ⟨fun _ => by omega, fun _ e => (hb y h).2.1 (by omega)⟩
  · rw [jn_off h]; exact ⟨fun e => absurd rfl e, fun e => by omega⟩
theorem jn_lt {n : Nat} {a b : Nat → Nat} (ha : Mat n a) (hb : Mat n b) {z : Nat} (h : z < 4 * n) : jn n a b z < 4 * n := by
  rcases @jn_cases n z with c | ⟨y, c, rfl⟩ | c
  · rw [jn_lo c]; have := (ha z c).1; omega
  · rw [jn_hi c]; have := (hb y c).1; omega
  · omega
theorem prs_ok {f g : Nat → Nat} {σ : Nat → Nat} (k : Nat) (hn : ∀ i j, i < k → j < k → (f i = f j → i = j) ∧ f i ≠ g j ∧ (g i = g j → i = j)) (ha : ∀ i, i < k → σ (f i) ≠ f i ∧ σ (g i) ≠ g i) : OK σ (prs f g k) := by
  induction k with
  | zero => trivial
  | succ k ih =>
    have h := ih (fun i j a b => hn i j (by omega) (by omega)) (fun i a => ha i (by omega))
    have hk := ha k (by omega)
    refine ⟨(hn k k (by omega) (by omega)).2.1, hk.1, hk.2, fun q => ?_, fun q => ?_, h⟩
    · obtain ⟨i, a, b⟩ := (pts_prs _ _ _ _).1 q
      rcases b with b | b
      · have := (hn k i (by omega) (by omega)).1 b; omega
      · exact (hn k i (by omega) (by omega)).2.1 b
    · obtain ⟨i, a, b⟩ := (pts_prs _ _ _ _).1 q
      rcases b with b | b
      · exact (hn i k (by omega) (by omega)).2.1 b.symm
      · have := (hn k i (by omega) (by omega)).2.2 b; omega
theorem mids_ok {n : Nat} {a b : Nat → Nat} (ha : Mat n a) (hb : Mat n b) : OK (jn n a b) (mids n) := by
  refine prs_ok n (fun i j hi hj => ?_) (fun i hi => ⟨(jn_alive ha hb).2 ?_, (jn_alive ha hb).2 ?_⟩) <;> simp only [up, dn] <;> omega
theorem mids_pts {n z : Nat} : pts (mids n) z ↔ n ≤ z ∧ z < 3 * n := by
  unfold mids
  rw [pts_prs]
  constructor
  · rintro ⟨i, h, e⟩; simp only [up, dn] at e; omega
  · intro h
    by_cases c : z < 2 * n
    · exact ⟨z - n, by omega, .inl (by simp only [up]; omega)⟩
    · exact ⟨z - 2 * n, by omega, .inr (by simp only [dn]; omega)⟩
/-- the outer points -/
def emb (n p : Nat) : Nat := if p < n then p else p + 2 * n
def une (n q : Nat) : Nat := if q < n then q else q - 2 * n
theorem emb_out {n p : Nat} (h : p < 2 * n) : ¬ pts (mids n) (emb n p) ∧ emb n p < 4 * n := by
  rw [mids_pts]; unfold emb; split <;> omega
theorem une_emb {n p : Nat} : une n (emb n p) = p := by
  unfold une emb
  by_cases c : p < n
  · rw [if_pos c, if_pos c]
  · rw [if_neg c, if_neg (by omega)]; omega
theorem emb_une {n q : Nat} (h : ¬ pts (mids n) q) (h2 : q < 4 * n) : emb n (une n q) = q ∧ une n q < 2 * n := by
  rw [mids_pts] at h
  unfold une emb
  by_cases c : q < n
  · rw [if_pos c, if_pos c]; omega
  · rw [if_neg c, if_neg (by omega)]; omega
def prod (n : Nat) (a b : Nat → Nat) (p : Nat) : Nat := une n ((glue (mids n) (jn n a b)).1 (emb n p))
def lops (n : Nat) (a b : Nat → Nat) : Nat := (glue (mids n) (jn n a b)).2
theorem glue_out {n : Nat} {a b : Nat → Nat} (ha : Mat n a) (hb : Mat n b) {z : Nat} (h1 : ¬ pts (mids n) z) (h2 : z < 4 * n) : ¬ pts (mids n) ((glue (mids n) (jn n a b)).1 z) ∧ (glue (mids n) (jn n a b)).1 z < 4 * n := by
  have hi := jn_inv ha hb
  have ho := mids_ok ha hb
  have gi := glue_inv _ _ hi ho
  have ga := glue_alive _ _ hi ho z h1 ((jn_alive ha hb).2 h2)
  refine ⟨fun e => ?_, ?_⟩
  · have := glue_dead _ _ hi ho _ (.inl e); rw [gi] at this; exact ga this.symm
  · refine Classical.byContradiction fun e => ?_
    have := glue_dead _ _ hi ho ((glue (mids n) (jn n a b)).1 z) (.inr (jn_off (by omega))); rw [gi] at this; exact ga this.symm
theorem prod_emb {n : Nat} {a b : Nat → Nat} (ha : Mat n a) (hb : Mat n b) {p : Nat} (h : p < 2 * n) : emb n (prod n a b p) = (glue (mids n) (jn n a b)).1 (emb n p) ∧ prod n a b p < 2 * n := by
  have e := emb_out h
  have g := glue_out ha hb e.1 e.2
  exact emb_une g.1 g.2
theorem prod_mat {n : Nat} {a b : Nat → Nat} (ha : Mat n a) (hb : Mat n b) : Mat n (prod n a b) := by
  intro p hp
  have h1 := prod_emb ha hb hp
  have h2 := prod_emb ha hb h1.2
  have gi := glue_inv _ _ (jn_inv ha hb) (mids_ok ha hb)
  refine ⟨h1.2, fun e => ?_, ?_⟩
  · have ga := glue_alive _ _ (jn_inv ha hb) (mids_ok ha hb) _ (emb_out hp).1 ((jn_alive ha hb).2 (emb_out hp).2)
    rw [e] at h1; exact ga h1.1.symm
  · have h3 := h2.1
    rw [h1.1, gi] at h3
    have := congrArg (une n) h3
    rwa [une_emb, une_emb] at this
/-- what a walk from an outer point finds is the partner in the product -/
theorem prod_path {n : Nat} {a b : Nat → Nat} (ha : Mat n a) (hb : Mat n b) {p q : Nat} (hp : p < 2 * n) (h : Path (jn n a b) (mids n) (emb n p) q) : une n q = prod n a b p := by
  unfold prod
  rw [path_glue _ _ (jn_inv ha hb) (mids_ok ha hb) (emb_out hp).1 h]
/-! ### the steps through the middle -/
theorem tau_up {n : Nat} {a b : Nat → Nat} (ha : Mat n a) (hb : Mat n b) {m : Nat} (hm : m < n) : tau (mids n) (n + m) = 2 * n + m ∧ tau (mids n) (2 * n + m) = n + m := tau_prs n (mids_ok ha hb) m hm
/-- the indices whose curves stay in the middle -/
def Cl (n : Nat) (a b : Nat → Nat) (m : Nat) : Prop := m < n ∧ ∀ z, Conn (jn n a b) (tau (mids n)) (n + m) z → pts (mids n) z
theorem cl_ixs {n : Nat} {a b : Nat → Nat} (ha : Mat n a) (hb : Mat n b) : Ixs (up n) (dn n) n (jn n a b) (Cl n a b) (fun m => a (n + m) - n) (fun m => b m) := by
  refine ⟨fun m h => h.1, fun m hm => ⟨fun h => h.2, fun h => ⟨hm, h⟩⟩, fun m h => ?_, fun m h => ?_⟩
  · obtain ⟨hm, h⟩ := h
    have c1 : Conn (jn n a b) (tau (mids n)) (n + m) (a (n + m)) := by
      have := Conn.s (σ := jn n a b) (τ := tau (mids n)) (x := n + m) _ .refl
      rwa [jn_lo (by omega)] at this
    have h1 := mids_pts.1 (h _ c1)
    have h2 := (ha (n + m) (by omega)).1
    have e : n + (a (n + m) - n) = a (n + m) := by omega
    refine ⟨⟨by omega, fun z hz => ?_⟩, ?_⟩
    · rw [e] at hz; exact h _ (c1.trans hz)
    · simp only [up]; rw [jn_lo (by omega), e]
  · obtain ⟨hm, h⟩ := h
    have c1 : Conn (jn n a b) (tau (mids n)) (n + m) (2 * n + b m) := by
      have := Conn.s _ (Conn.t (σ := jn n a b) (τ := tau (mids n)) (x := n + m) _ .refl)
      rwa [(tau_up ha hb hm).1, jn_hi (by omega)] at this
    have h1 := mids_pts.1 (h _ c1)
    have h2 := (hb m (by omega)).1
    have hbm : b m < n := by omega
    have c2 : Conn (jn n a b) (tau (mids n)) (n + m) (n + b m) := by
      have := Conn.t _ c1
      rwa [(tau_up ha hb hbm).2] at this
    refine ⟨⟨hbm, fun z hz => h _ (c2.trans hz)⟩, ?_⟩
    simp only [dn]; rw [jn_hi (by omega)]
theorem cl_pairs {n : Nat} {a b : Nat → Nat} (ha : Mat n a) (hb : Mat n b) : Pairs (Cl n a b) (fun m => a (n + m) - n) ∧ Pairs (Cl n a b) (fun m => b m) := by
  have h := cl_ixs ha hb
  refine ⟨⟨fun m u => (h.sA m u).1, fun m u e => ?_, fun m u => ?_⟩, ⟨fun m u => (h.sB m u).1, fun m u => ?_, fun m u => ?_⟩⟩
  · have h1 := (h.sA m u).2
    have hm := u.1
    simp only [up] at h1
    rw [jn_lo (by omega), e] at h1
    exact (ha _ (by omega)).2.1 h1
  · have h1 := (h.sA m u).2
    have hm := u.1
    simp only [up] at h1
    rw [jn_lo (by omega)] at h1
    show a (n + (a (n + m) - n)) - n = m
    rw [← h1, (ha _ (by omega)).2.2]; omega
  · have hm := u.1
    exact (hb m (by omega)).2.1
  · have hm := u.1
    exact (hb m (by omega)).2.2
theorem lops_fst {n : Nat} {a b : Nat → Nat} (ha : Mat n a) (hb : Mat n b) : lops n a b = cntP (Fst (Cl n a b) (fun m => a (n + m) - n) (fun m => b m)) n := by
  unfold lops mids
  rw [glue_count _ _ _ _ (jn_inv ha hb) (mids_ok ha hb)]
  exact cntP_congr n (fun i hi => (cl_ixs ha hb).mn (jn_inv ha hb) (mids_ok ha hb) hi)
/-- what the ways meet is what is not closed in the middle -/
theorem met_cl {n : Nat} {a b : Nat → Nat} (ha : Mat n a) (hb : Mat n b) {m : Nat} (hm : m < n) : (∃ o, ¬ pts (mids n) o ∧ Conn (jn n a b) (tau (mids n)) o (n + m)) ↔ ¬ Cl n a b m := by
  have hi := jn_inv ha hb
  have ht := tau_inv (mids_ok ha hb)
  constructor
  · rintro ⟨o, h1, h2⟩ h3
    exact h1 (h3.2 o (h2.symm hi ht))
  · intro h
    refine Classical.byContradiction fun e => h ⟨hm, fun z hz => Classical.byContradiction fun f => e ⟨z, f, hz.symm hi ht⟩⟩
end Go.Proofs.Ytjfkompfkgjdaaa.G
end
section
/- The product as the program makes it is the gluing along the middle. -/
namespace Go.Proofs.Ytjfkompfkgjdaaa.L
open Go.RowKit Go.Proofs.Ytjfkompfkgjdaaa.PC Go.Proofs.YtjfkompfkgjdaaaW.PrintWords Go.Proofs.YtjfkompfkgjdaaaW.PrintLast Go.Proofs.Ytjfkompfkgjdaaa.G
/-- a list as a function -/
def fn (l : List Int) (z : Nat) : Nat := (rd l (z : Int)).toNat
/-- a list that is a matching of 2 n points -/
structure LM (n : Nat) (l : List Int) : Prop where
  len : l.length = 2 * n
  nn : ∀ z : Nat, z < 2 * n → rd l (z : Int) = (fn l z : Int)
  mat : Mat n (fn l)
def prodL (n : Nat) (a b : List Int) : List Int := (List.range (2 * n)).map (fun p => (prod n (fn a) (fn b) p : Int))
theorem rd_range (f : Nat → Int) (N z : Nat) (h : z < N) : rd ((List.range N).map f) (z : Int) = f z := by
  simp [rd, List.getD_eq_getElem?_getD, h]
theorem prodL_rd {n : Nat} {a b : List Int} {z : Nat} (h : z < 2 * n) : rd (prodL n a b) (z : Int) = (prod n (fn a) (fn b) z : Int) := rd_range _ _ _ h
theorem prodL_len {n : Nat} {a b : List Int} : (prodL n a b).length = 2 * n := by simp [prodL]
theorem prodL_fn {n : Nat} {a b : List Int} {z : Nat} (h : z < 2 * n) : fn (prodL n a b) z = prod n (fn a) (fn b) z := by
  show (rd (prodL n a b) (z : Int)).toNat = _
  rw [prodL_rd h, Int.toNat_natCast]
theorem mat_congr {n : Nat} {a b : Nat → Nat} (h : ∀ z, z < 2 * n → a z = b z) (hb : Mat n b) : Mat n a := by
  intro z hz
  have := hb z hz
  rw [h z hz, h _ this.1]
  exact this
theorem prodL_lm {n : Nat} {a b : List Int} (ha : LM n a) (hb : LM n b) : LM n (prodL n a b) :=
  ⟨prodL_len, fun z hz => by rw [prodL_rd hz, prodL_fn hz], mat_congr (fun z hz => prodL_fn hz) (prod_mat ha.mat hb.mat)⟩
theorem list_eq {a b : List Int} (hl : a.length = b.length) (h : ∀ z : Nat, z < a.length → rd a (z : Int) = rd b (z : Int)) : a = b := by
  apply List.ext_getElem hl
  intro i h1 h2
  have := h i h1
  simpa [rd, List.getD_eq_getElem?_getD, h1, h2] using this
/-! ### the ways -/
abbrev sg (n : Nat) (a b : List Int) : Nat → Nat := jn n (fn a) (fn b)
/-- the points that a list of marks, by index, marks -/
def MT (n : Nat) (T : List Bool) (u : Nat) : Prop := T.getD (u % n) false = true
theorem getD_set (T : List Bool) (i j : Nat) (h : i < T.length) : (T.set i true).getD j false = true ↔ T.getD j false = true ∨ j = i := by
  by_cases e : i = j
  · subst e; simp [List.getD_eq_getElem?_getD, h]
  · simp only [List.getD_eq_getElem?_getD, List.getElem?_set_ne e]
    exact ⟨fun h => .inl h, fun h => h.elim id (fun f => absurd f.symm e)⟩
theorem mid_mod {n u m : Nat} (hu : pts (mids n) u) (hm : m < n) : u % n = m ↔ u = n + m ∨ u = 2 * n + m := by
  rw [mids_pts] at hu
  by_cases c : u < 2 * n
  · have e : u % n = u - n := by rw [Nat.mod_eq_sub_mod (by omega), Nat.mod_eq_of_lt (by omega)]
    rw [e]; omega
  · have e : u % n = u - n - n := by rw [Nat.mod_eq_sub_mod (by omega), Nat.mod_eq_sub_mod (by omega), Nat.mod_eq_of_lt (by omega)]
    rw [e]; omega
def zOf (n : Nat) (up : Bool) (p : Nat) : Nat := if up = true then p else 2 * n + p
/-- one step from a point to the next one -/
def stp (n : Nat) (a b : List Int) (z : Nat) : Nat := tau (mids n) (sg n a b z)
theorem way_ok {n : Nat} {a b : List Int} (ha : LM n a) (hb : LM n b) (P : Nat → Prop) (p0 : Nat) (d : Nat) : ∀ (fuel : Nat) (up : Bool) (p : Nat) (T : List Bool), d < fuel → p < 2 * n → T.length = n →
    ¬ pts (mids n) (itr (stp n a b) (d + 1) (zOf n up p)) → (∀ i, i < d → pts (mids n) (itr (stp n a b) (i + 1) (zOf n up p))) →
    W1 (sg n a b) (tau (mids n)) (pts (mids n)) P p0 (zOf n up p) (MT n T) →
    ∃ q T', plait_way a b n fuel up (p : Int) T = some ((une n q : Int), T') ∧ T'.length = n ∧ Path (sg n a b) (mids n) (zOf n up p) q ∧ W0 (sg n a b) (tau (mids n)) (pts (mids n)) (fun u => P u ∨ u = p0) (MT n T') := by
  have ho := mids_ok ha.mat hb.mat
  have hs := jn_inv ha.mat hb.mat
  have ht := tau_inv ho
  induction d with
  | zero =>
    intro fuel up p T hf hp hT h1 _ hW
    obtain ⟨k, rfl⟩ : ∃ k, fuel = k + 1 := ⟨fuel - 1, by omega⟩
    have hn : ¬ pts (mids n) (sg n a b (zOf n up p)) := fun e => h1 (tau_pts ho e)
    refine ⟨_, T, ?_, hT, .out _ hn, hW.fin hn⟩
    simp only [plait_way]
    have la := ha.len
    rw [if_pos (by omega)]
    cases up with
    | true =>
      have e : sg n a b (zOf n true p) = fn a p := jn_lo hp
      have hlt := (ha.mat p hp).1
      rw [e, mids_pts] at hn
      rw [if_pos rfl, ha.nn p hp, if_pos (decide_eq_true (by omega)).symm, e]
      unfold une; rw [if_pos (by omega)]
    | false =>
      have e : sg n a b (zOf n false p) = 2 * n + fn b p := jn_hi hp
      have hlt := (hb.mat p hp).1
      rw [e, mids_pts] at hn
      simp only [Bool.false_eq_true, ↓reduceIte]
      rw [hb.nn p hp, if_pos (decide_eq_false (by omega)).symm, e]
      unfold une; rw [if_neg (by omega), Nat.add_sub_cancel_left]
  | succ d ih =>
    intro fuel up p T hf hp hT h1 h2 hW
    obtain ⟨k, rfl⟩ : ∃ k, fuel = k + 1 := ⟨fuel - 1, by omega⟩
    have h3 : pts (mids n) (sg n a b (zOf n up p)) := by
      have := h2 0 (by omega)
      have e : itr (stp n a b) (0 + 1) (zOf n up p) = tau (mids n) (sg n a b (zOf n up p)) := rfl
      rw [e] at this
      have := tau_pts ho this
      rwa [ht] at this
    have la := ha.len
    -- the middle point
    obtain ⟨m, hm, hx, hz⟩ : ∃ m, m < n ∧ (if up = true then fn a p = n + m else fn b p = m) ∧ stp n a b (zOf n up p) = zOf n (!up) (if up = true then m else n + m) := by
      cases up with
      | true =>
        have e : sg n a b (zOf n true p) = fn a p := jn_lo hp
        have hlt := (ha.mat p hp).1
        rw [e, mids_pts] at h3
        have e2 : fn a p = n + (fn a p - n) := by omega
        refine ⟨fn a p - n, by omega, by rw [if_pos rfl]; exact e2, ?_⟩
        unfold stp
        rw [e, if_pos rfl, e2, (tau_up ha.mat hb.mat (by omega)).1, Nat.add_sub_cancel_left]
        rfl
      | false =>
        have e : sg n a b (zOf n false p) = 2 * n + fn b p := jn_hi hp
        have hlt := (hb.mat p hp).1
        rw [e, mids_pts] at h3
        refine ⟨fn b p, by omega, by rw [if_neg (by decide)], ?_⟩
        unfold stp
        rw [e, if_neg (by decide), (tau_up ha.mat hb.mat (by omega)).2]
        rfl
    have hm2 : (MT n (T.set m true)) = fun u => (T.set m true).getD (u % n) false = true := rfl
    have hM : ∀ u, pts (mids n) u → (MT n (T.set m true) u ↔ MT n T u ∨ u = sg n a b (zOf n up p) ∨ u = tau (mids n) (sg n a b (zOf n up p))) := by
      intro u hu
      unfold MT
      rw [getD_set _ _ _ (by omega), mid_mod hu hm]
      have e1 : sg n a b (zOf n up p) = if up = true then n + m else 2 * n + m := by
        cases up with
        | true => rw [if_pos rfl]; rw [if_pos rfl] at hx; exact (jn_lo hp).trans hx
        | false => rw [if_neg (by decide)]; rw [if_neg (by decide)] at hx; exact (jn_hi hp).trans (by rw [hx])
      have e2 : tau (mids n) (sg n a b (zOf n up p)) = if up = true then 2 * n + m else n + m := by
        rw [e1]
        cases up with
        | true => exact (tau_up ha.mat hb.mat hm).1
        | false => exact (tau_up ha.mat hb.mat hm).2
      rw [e2, e1]
      cases up with
      | true => simp
      | false => simp; exact ⟨fun h => h.elim .inl (fun h => .inr h.symm), fun h => h.elim .inl (fun h => .inr h.symm)⟩
    have hW' := hW.step hs ht (fun u hu => tau_pts ho hu) h3 hM
    have e4 : tau (mids n) (sg n a b (zOf n up p)) = zOf n (!up) (if up = true then m else n + m) := hz
    rw [e4] at hW'
    obtain ⟨q, T', g1, g2, g3, g4⟩ := ih k (!up) (if up = true then m else n + m) (T.set m true) (by omega) (by split <;> omega) (by simpa using hT)
      (by rw [← hz]; exact h1) (fun i hi => by rw [← hz]; exact h2 (i + 1) (by omega)) hW'
    refine ⟨q, T', ?_, g2, .via _ _ h3 (by rw [e4]; exact g3), g4⟩
    rw [← g1]
    simp only [plait_way]
    rw [if_pos (by omega)]
    cases up with
    | true =>
      rw [if_pos rfl] at hx
      have e5 : (((n + m : Nat)) : Int) % (n : Int) = (m : Int) := by
        rw [← Int.natCast_emod, Nat.add_mod_left, Nat.mod_eq_of_lt hm]
      rw [if_pos rfl, ha.nn p hp, hx, if_neg (by rw [decide_eq_false (by omega)]; decide), if_pos (by omega), if_pos rfl, if_pos rfl, e5]
      rfl
    | false =>
      rw [if_neg (by decide)] at hx
      have e5 : ((m : Nat) : Int) % (n : Int) = (m : Int) := by
        rw [← Int.natCast_emod, Nat.mod_eq_of_lt hm]
      simp only [Bool.false_eq_true, ↓reduceIte]
      rw [hb.nn p hp, hx, if_neg (by rw [decide_eq_true (by omega)]; decide), if_pos (by omega), e5]
      rw [show ((m : Nat) : Int) + (n : Int) = ((n + m : Nat) : Int) by omega]
      rfl
theorem way_start {n : Nat} {a b : List Int} (ha : LM n a) (hb : LM n b) (P : Nat → Prop) (up : Bool) (p : Nat) (T : List Bool) (hp : p < 2 * n) (hT : T.length = n) (ho : zOf n up p = emb n p)
    (hW : W0 (sg n a b) (tau (mids n)) (pts (mids n)) P (MT n T)) :
    ∃ T', plait_way a b n (2 * n + 2) up (p : Int) T = some ((prod n (fn a) (fn b) p : Int), T') ∧ T'.length = n ∧ W0 (sg n a b) (tau (mids n)) (pts (mids n)) (fun u => P u ∨ u = emb n p) (MT n T') := by
  have ok := mids_ok ha.mat hb.mat
  have hs := jn_inv ha.mat hb.mat
  have ht := tau_inv ok
  have e := emb_out hp
  obtain ⟨k, hk, h1, h2⟩ := leaves (f := stp n a b) (fun x y h => hs.inj (ht.inj h)) (pts (mids n)) (fun z => z - n) (2 * n) (fun z hz => by rw [mids_pts] at hz; omega) (fun u v hu hv h => by rw [mids_pts] at hu hv; omega) (emb n p) e.1
  rw [← ho] at h1 h2
  obtain ⟨q, T', g1, g2, g3, g4⟩ := way_ok ha hb P (emb n p) k (2 * n + 2) up p T (by omega) hp hT h1 h2 (by rw [ho]; exact hW.start e.1)
  rw [ho] at g3
  rw [prod_path ha.mat hb.mat hp g3] at g1
  exact ⟨T', g1, g2, g4⟩
end Go.Proofs.Ytjfkompfkgjdaaa.L
end
section
namespace Go.Proofs.Ytjfkompfkgjdaaa.PC
open Go.RowKit Go.Proofs.YtjfkompfkgjdaaaW.PrintWords Go.Proofs.YtjfkompfkgjdaaaW.PrintLast Go.Proofs.YtjfkompfkgjdaaaW.PrintMore
attribute [local go_sem] max2_int min2_int max_two min_two max_three min_three max_four min_four   -- for this text's walks alone
set_option linter.unusedVariables false
set_option linter.unusedSimpArgs false
end Go.Proofs.Ytjfkompfkgjdaaa.PC
end
section
/- Arch systems: the partners of the points, and the closed curves of two of them, by the program and by the specification. -/
namespace Go.Proofs.Ytjfkompfkgjdaaa.L
open Go.RowKit Go.Proofs.Ytjfkompfkgjdaaa.PC Go.Proofs.YtjfkompfkgjdaaaW.PrintWords Go.Proofs.YtjfkompfkgjdaaaW.PrintLast
theorem pw64 {x : Int} (h0 : -9223372036854775808 ≤ x) (h1 : x ≤ 9223372036854775807) : wrap64 x = x := by unfold wrap64; omega
/-- how many opening brackets among the first i bytes -/
def opn (s : ByteArray) : Nat → Nat
  | 0 => 0
  | i + 1 => opn s i + if bt s (i : Int) = 40 then 1 else 0
structure Inv (s : ByteArray) (q : Nat) (out op : List Int) : Prop where
  len : out.length = s.size
  frng : ∀ x ∈ out, 0 ≤ x ∧ (x < (s.size : Int) ∨ s.size = 0)
  fop : ∀ x ∈ op, 0 ≤ x ∧ x < (q : Int)
  cnt : op.length + q = 2 * opn s q
  br : ∀ i : Nat, i < q → bt s (i : Int) = 40 ∨ bt s (i : Int) = 41
  dep : ∀ i : Nat, i ≤ q → i ≤ 2 * opn s i
/-- what is known of an arch system and its partners -/
structure Arch (s : ByteArray) (o : List Int) : Prop where
  len : o.length = s.size
  pos : s.size ≠ 0
  rng : ∀ x ∈ o, 0 ≤ x ∧ x < (s.size : Int)
  br : ∀ i : Nat, i < s.size → bt s (i : Int) = 40 ∨ bt s (i : Int) = 41
  dep : ∀ i : Nat, i ≤ s.size → i ≤ 2 * opn s i
  bal : s.size = 2 * opn s s.size
/-! ### closed curves -/
theorem count_set (T : List Bool) (i : Nat) (hi : i < T.length) (h : T.getD i false = false) : (T.set i true).count false + 1 = T.count false := by
  induction T generalizing i with
  | nil => simp at hi
  | cons x xs ih =>
    cases i with
    | zero => simp at h; subst h; simp
    | succ i =>
      have := ih i (by simpa using hi) (by simpa using h)
      cases x <;> simp [List.count_cons] at this ⊢ <;> omega
theorem count_set_le (T : List Bool) (i : Nat) : (T.set i true).count false ≤ T.count false := by
  by_cases hi : i < T.length
  · cases h : T.getD i false with
    | false => have := count_set T i hi h; omega
    | true =>
      have e : T.set i true = T := by
        apply List.ext_getElem (by simp)
        intro j h1 h2
        by_cases e : i = j
        · subst e; simp [List.getD_eq_getElem?_getD, hi] at h; simp [h]
        · simp [List.getElem_set, e]
      rw [e]; exact Nat.le_refl _
  · rw [List.set_eq_of_length_le (by omega)]; exact Nat.le_refl _
end Go.Proofs.Ytjfkompfkgjdaaa.L
end
section
/- The product as the program makes it: all ways, the closed curves, and the whole. -/
namespace Go.Proofs.Ytjfkompfkgjdaaa.L
open Go.RowKit Go.Proofs.Ytjfkompfkgjdaaa.PC Go.Proofs.YtjfkompfkgjdaaaW.PrintWords Go.Proofs.YtjfkompfkgjdaaaW.PrintLast Go.Proofs.Ytjfkompfkgjdaaa.G
theorem rd_set (l : List Int) (i j : Nat) (v : Int) (h : i < l.length) : rd (l.set i v) (j : Int) = if j = i then v else rd l (j : Int) := by
  by_cases e : i = j
  · subst e; simp [rd, List.getD_eq_getElem?_getD, h]
  · rw [if_neg (Ne.symm e)]
    simp [rd, List.getD_eq_getElem?_getD, List.getElem?_set_ne e]
/-- the outer points below i, of both sides -/
def done (n i u : Nat) : Prop := ∃ j, j < i ∧ (u = emb n j ∨ u = emb n (n + j))
theorem W0.congr {σ τ : Nat → Nat} {mid P Q M : Nat → Prop} (h : W0 σ τ mid P M) (hq : ∀ u, Q u → P u) : W0 σ τ mid Q M :=
  ⟨fun u hu => h.cl u (hu.elim .inl (fun e => .inr ⟨e.1, hq u e.2⟩)), h.ct, h.low⟩
theorem ways_ok {n : Nat} {a b : List Int} (ha : LM n a) (hb : LM n b) (d : Nat) : ∀ (i : Nat) (out : List Int) (T : List Bool), i + d = n → out.length = 2 * n → T.length = n →
    (∀ j, j < i → rd out (j : Int) = (prod n (fn a) (fn b) j : Int) ∧ rd out ((n + j : Nat) : Int) = (prod n (fn a) (fn b) (n + j) : Int)) →
    W0 (sg n a b) (tau (mids n)) (pts (mids n)) (done n i) (MT n T) →
    ∃ T', plait_ways a b n d i out T = some (prodL n a b, T') ∧ T'.length = n ∧ W0 (sg n a b) (tau (mids n)) (pts (mids n)) (done n n) (MT n T') := by
  induction d with
  | zero =>
    intro i out T hi ho hT hr hW
    obtain rfl : i = n := by omega
    refine ⟨T, ?_, hT, hW⟩
    have e : out = prodL i a b := by
      refine list_eq (by rw [prodL_len, ho]) (fun z hz => ?_)
      rw [prodL_rd (by omega)]
      by_cases c : z < i
      · exact (hr z c).1
      · have := (hr (z - i) (by omega)).2
        rwa [show i + (z - i) = z by omega] at this
    rw [e]; rfl
  | succ d ih =>
    intro i out T hi ho hT hr hW
    have e1 : emb n i = i := by unfold emb; rw [if_pos (by omega)]
    have e2 : emb n (n + i) = 2 * n + (n + i) := by unfold emb; rw [if_neg (by omega)]; omega
    obtain ⟨T1, g1, l1, w1⟩ := way_start ha hb _ true i T (by omega) hT e1.symm hW
    obtain ⟨T2, g2, l2, w2⟩ := way_start ha hb _ false (n + i) T1 (by omega) l1 e2.symm w1
    obtain ⟨T', g3, l3, w3⟩ := ih (i + 1) ((out.set i (prod n (fn a) (fn b) i : Int)).set (n + i) (prod n (fn a) (fn b) (n + i) : Int)) T2 (by omega) (by simpa using ho) l2 (by
      intro j hj
      have lo : n + i < (out.set i (prod n (fn a) (fn b) i : Int)).length := by simp; omega
      rw [rd_set _ _ _ _ lo, rd_set _ _ _ _ (by omega), rd_set _ _ _ _ lo, rd_set _ _ _ _ (by omega)]
      by_cases c : j = i
      · subst c
        rw [if_neg (by omega), if_pos rfl, if_pos rfl]; exact ⟨rfl, rfl⟩
      · rw [if_neg (by omega), if_neg c, if_neg (by omega), if_neg (by omega)]
        exact hr j (by omega)) (W0.congr w2 (fun u ⟨j, hj, hu⟩ => by
          by_cases c : j = i
          · subst c
            rcases hu with hu | hu
            · exact .inl (.inr hu)
            · exact .inr hu
          · exact .inl (.inl ⟨j, by omega, hu⟩)))
    refine ⟨T', ?_, l3, w3⟩
    simp only [plait_ways]
    rw [g1, Option.bind_some, g2, Option.bind_some]
    exact g3
/-! ### the closed curves -/
/-- at which indices the walks stand: over the lower diagram first -/
abbrev fA (n : Nat) (a : List Int) (m : Nat) : Nat := fn a (n + m) - n
abbrev CL (n : Nat) (a b : List Int) : Nat → Prop := Cl n (fn a) (fn b)
def bM (T : List Bool) (m : Nat) : Prop := T.getD m false = true
theorem count_pos {T : List Bool} {i : Nat} (hi : i < T.length) (h : T.getD i false = false) : T.count false ≠ 0 := by
  have := count_set T i hi h; omega
theorem round_ok {n : Nat} {a b : List Int} (hn : n ≤ 1000) (ha : LM n a) (hb : LM n b) (T0 : List Bool) (i : Nat) (c : Nat) : ∀ (fuel at_ : Nat) (T : List Bool), c < fuel → T.count false ≤ c → T.length = n →
    (∀ m, m < n → ¬ CL n a b m → bM T m) → Rd (CL n a b) (fn b) (fA n a) (bM T0) (bM T) i at_ →
    ∃ T', plait_round a b n fuel (at_ : Int) T = some T' ∧ T'.length = n ∧ (∀ m, m < n → ¬ CL n a b m → bM T' m) ∧ ∀ m, CL n a b m → (bM T' m ↔ bM T0 m ∨ Conn (fn b) (fA n a) i m) := by
  obtain ⟨pa, pb⟩ := cl_pairs ha.mat hb.mat
  have hIx := cl_ixs ha.mat hb.mat
  induction c with
  | zero =>
    intro fuel at_ T hf hc hT hU hR
    obtain ⟨k, rfl⟩ : ∃ k, fuel = k + 1 := ⟨fuel - 1, by omega⟩
    have hat := hR.uc.1
    have ht : bM T at_ := by
      unfold bM
      cases e : T.getD at_ false with
      | true => rfl
      | false => exact absurd (Nat.le_zero.1 hc) (count_pos (by omega) e)
    refine ⟨T, ?_, hT, hU, hR.fin pb pa ht⟩
    simp only [plait_round]
    rw [if_pos (by omega), Int.toNat_natCast, if_pos (show T.getD at_ false = true from ht)]
  | succ c ih =>
    intro fuel at_ T hf hc hT hU hR
    obtain ⟨k, rfl⟩ : ∃ k, fuel = k + 1 := ⟨fuel - 1, by omega⟩
    have hat := hR.uc.1
    by_cases ht : bM T at_
    · refine ⟨T, ?_, hT, hU, hR.fin pb pa ht⟩
      simp only [plait_round]
      rw [if_pos (by omega), Int.toNat_natCast, if_pos (show T.getD at_ false = true from ht)]
    · have uB := pb.mem at_ hR.uc
      have hbl := uB.1
      have e := count_set T at_ (by omega) (by unfold bM at ht; simpa using ht)
      have e2 := count_set_le (T.set at_ true) (fn b at_)
      have hM : ∀ m, CL n a b m → (bM ((T.set at_ true).set (fn b at_) true) m ↔ bM T m ∨ m = at_ ∨ m = fn b at_) := by
        intro m _
        unfold bM
        rw [getD_set _ _ _ (by simp; omega), getD_set _ _ _ (by omega), or_assoc]
      obtain ⟨T', g1, g2, g3, g4⟩ := ih k (fA n a (fn b at_)) ((T.set at_ true).set (fn b at_) true) (by omega) (by omega) (by simpa using hT)
        (fun m hm h => by unfold bM; rw [getD_set _ _ _ (by simp; omega), getD_set _ _ _ (by omega)]; exact .inl (.inl (hU m hm h))) (hR.step pb pa ht hM)
      refine ⟨T', ?_, g2, g3, g4⟩
      simp only [plait_round]
      have s1 := (hIx.sA _ uB).2
      simp only [up] at s1
      rw [jn_lo (by omega)] at s1
      have e3 : rd a (rd b (at_ : Int) + (n : Int)) = ((n + fA n a (fn b at_) : Nat) : Int) := by
        rw [hb.nn at_ (by omega), show (fn b at_ : Int) + (n : Int) = ((n + fn b at_ : Nat) : Int) by omega, ha.nn _ (by omega), s1]
      have hlt : fA n a (fn b at_) < n := (pa.mem _ uB).1
      rw [if_pos (by omega), Int.toNat_natCast, if_neg (show ¬ T.getD at_ false = true from ht), e3, hb.nn at_ (by omega), if_pos (by omega), Int.toNat_natCast, show ((n + fA n a (fn b at_) : Nat) : Int) - (n : Int) = (fA n a (fn b at_) : Int) by omega, pw64 (by omega) (by omega)]
      exact g1
theorem loops_ok {n : Nat} {a b : List Int} (hn : n ≤ 1000) (ha : LM n a) (hb : LM n b) (d : Nat) : ∀ (i : Nat) (T : List Bool), i + d = n → T.length = n →
    (∀ m, m < n → ¬ CL n a b m → bM T m) → MetI (CL n a b) (fn b) (fA n a) i (bM T) →
    plait_loops a b n d i (cntP (Fst (CL n a b) (fn b) (fA n a)) i) T = some (cntP (Fst (CL n a b) (fn b) (fA n a)) n) := by
  obtain ⟨pa, pb⟩ := cl_pairs ha.mat hb.mat
  induction d with
  | zero => intro i T hi hT hU hM; obtain rfl : i = n := by omega
            rfl
  | succ d ih =>
    intro i T hi hT hU hM
    simp only [plait_loops]
    by_cases c : bM T i
    · obtain ⟨m1, m2⟩ := hM.skip (fun _ => c)
      rw [if_pos (show T.getD i false = true from c)]
      have := ih (i + 1) T (by omega) hT hU m1
      simp only [cntP] at this
      rwa [if_neg m2] at this
    · have ui : CL n a b i := Classical.byContradiction fun e => c (hU i (by omega) e)
      obtain ⟨ca, cb⟩ := hM.closed pb pa
      obtain ⟨T', g1, g2, g3, g4⟩ := round_ok hn ha hb T i n (n + 1) i T (by omega) (by rw [← hT]; exact List.count_le_length) hT hU (Rd.start pb pa ca cb ui c)
      obtain ⟨m1, m2⟩ := hM.round ui c g4
      rw [if_neg (show ¬ T.getD i false = true from c), g1, Option.bind_some]
      have := ih (i + 1) T' (by omega) g2 g3 m1
      simp only [cntP] at this
      rwa [if_pos m2] at this
theorem done_all {n : Nat} {a b : List Int} (ha : LM n a) (hb : LM n b) (u : Nat) (hu : ¬ pts (mids n) u) : done n n u ∨ sg n a b u = u := by
  by_cases c : u < 4 * n
  · refine .inl ?_
    have e := emb_une hu c
    by_cases d : une n u < n
    · exact ⟨une n u, d, .inl e.1.symm⟩
    · exact ⟨une n u - n, by omega, .inr (by rw [show n + (une n u - n) = une n u by omega]; exact e.1.symm)⟩
  · exact .inr (jn_off (by omega))
/-- the program's product is the gluing -/
theorem product_ok {n : Nat} {a b : List Int} (hn : n ≤ 500) (ha : LM n a) (hb : LM n b) : plait_diagram_product.f a b = some (prodL n a b, (lops n (fn a) (fn b) : Int)) := by
  have ho := mids_ok ha.mat hb.mat
  have la := ha.len
  have lb := hb.len
  have e : a.length / 2 = n := by omega
  have w0 : W0 (sg n a b) (tau (mids n)) (pts (mids n)) (done n 0) (MT n (List.replicate n false)) := by
    have no : ∀ u, ¬ MT n (List.replicate n false) u := fun u h => by
      unfold MT at h
      rw [List.getD_eq_getElem?_getD, List.getElem?_replicate] at h
      split at h <;> simp at h
    exact ⟨fun u hu => hu.elim (fun h => absurd h.2 (no u)) (fun h => by obtain ⟨j, hj, _⟩ := h.2; omega), fun u _ h => absurd h (no u), fun u _ h => absurd h (no u)⟩
  obtain ⟨T, g1, g2, g3⟩ := ways_ok ha hb n 0 (List.replicate (2 * n) 0) (List.replicate n false) (by omega) (by simp) (by simp) (fun j hj => by omega) w0
  have all := g3.all (fun u hu => (tau_out ho).2 hu) (done_all ha hb)
  have hT : ∀ m, m < n → (bM T m ↔ ¬ CL n a b m) := by
    intro m hm
    rw [← met_cl ha.mat hb.mat hm, ← all (n + m) (mids_pts.2 (by omega))]
    unfold MT bM
    rw [Nat.add_mod_left, Nat.mod_eq_of_lt hm]
  have g4 := loops_ok (by omega) ha hb n 0 T (by omega) g2 (fun m hm h => (hT m hm).2 h) (fun m um => ⟨fun t => absurd um ((hT m um.1).1 t), fun ⟨j, hj, _⟩ => by omega⟩)
  unfold plait_diagram_product.f
  rw [if_pos (by omega), e, la, g1, Option.bind_some]
  simp only [cntP] at g4
  rw [g4, Option.bind_some, lops_fst ha.mat hb.mat, cntP_congr n (fun i _ => fst_swap)]
end Go.Proofs.Ytjfkompfkgjdaaa.L
end
