/- Parts of the proof of LawPlaitBent, one behind the other: PCg6 LPart LLoop MPile LDia LSelf PCf28 LIdent MAssoc MPlan LAssoc PCg8 MTrace MTurn MPow PCf57 PCf39 LPow LSys PCf41 PCf43 LBend LTrace LBent LPowB PurePlaitBent LawPlaitBent. -/
import Derived.Test.YtjfkompfkgjdaaaRows
import Derived.WalkKit
import Derived.ProofKit
import Derived.OpenShut
import Derived.ShutString
import Derived.ChangeOld
import Derived.Below
import Derived.SizedLaws
import Derived.Test.YtjfkompfkgjdaaaJPlaitBent5
section
namespace Go.Proofs.Ytjfkompfkgjdaaa.PC
open Go.RowKit Go.Proofs.YtjfkompfkgjdaaaW.PrintWords Go.Proofs.YtjfkompfkgjdaaaW.PrintLast Go.Proofs.YtjfkompfkgjdaaaW.PrintMore
attribute [local go_sem] max2_int min2_int max_two min_two max_three min_three max_four min_four   -- for this text's walks alone
set_option linter.unusedVariables false
set_option linter.unusedSimpArgs false
/-! ### pomaderef07_partners: function 64 -/
def pomaderef07_partners.l0 : Nat → ByteArray → List Int → List Int → Int → Option (List Int × Bool)
 | 0, _, _, _, _ => none
 | k + 1, x0, x4, x5, x6 => if x6 < (x0.size : Int) then (if 0 ≤ x6 then (if (bt x0 x6) = 40 then (if x5.length < 17592186044416 then (pomaderef07_partners.l0 k x0 x4 (x5 ++ [x6]) (wrap64 (x6 + 1))) else (none)) else (if (bt x0 x6) = 41 then (if (x5.length : Int) > 0 then (if 0 ≤ (wrap64 ((x5.length : Int) - 1)) then (if (wrap64 ((x5.length : Int) - 1)) < (x5.length : Int) then (if (wrap64 ((x5.length : Int) - 1)) ≤ (x5.length : Int) then (if x6 < (x4.length : Int) then (if 0 ≤ (rd x5 (wrap64 ((x5.length : Int) - 1))) then (if (rd x5 (wrap64 ((x5.length : Int) - 1))) < (x4.length : Int) then (pomaderef07_partners.l0 k x0 ((x4.set (x6 : Int).toNat (rd x5 (wrap64 ((x5.length : Int) - 1)))).set ((rd x5 (wrap64 ((x5.length : Int) - 1))) : Int).toNat x6) (x5.take ((wrap64 ((x5.length : Int) - 1)) : Int).toNat) (wrap64 (x6 + 1))) else (none)) else (none)) else (none)) else (none)) else (none)) else (none)) else (some (([] : List Int), false))) else (some (([] : List Int), false)))) else (none)) else (if (x0.size : Int) > 0 then (some (x4, ((x5.length : Int) == 0))) else (some (x4, false)))
def pomaderef07_partners.f (k : Nat) (a0 : ByteArray) : Option (List Int × Bool) := if 0 ≤ (a0.size : Int) then (if ((a0.size : Int) : Int).toNat ≤ 35184372088832 then (pomaderef07_partners.l0 k a0 (List.replicate ((a0.size : Int) : Int).toNat 0) ([] : List Int) 0) else (none)) else (none)
theorem pomaderef07_partners.mono_l : ∀ k, (∀ y0 y1 y2 y3, LeO (pomaderef07_partners.l0 k y0 y1 y2 y3) (pomaderef07_partners.l0 (k + 1) y0 y1 y2 y3))
 | 0 => fun _ _ _ _ r h => by simp [pomaderef07_partners.l0] at h
 | k + 1 => by
  have ih0 := pomaderef07_partners.mono_l k
  ·intro y0 y1 y2 y3
   unfold pomaderef07_partners.l0
   repeat' first
   | (with_reducible exact ih0 _ _ _ _)
   | (with_reducible exact LeO.refl _)
   | (with_reducible exact LeO.none _)
   | (with_reducible refine LeO.ite ?_ ?_)
   | (with_reducible refine LeO.bind ?_ (fun _ => ?_))
   | exact ih0 _ _ _ _
   | exact LeO.none _
   | refine LeO.ite ?_ ?_
   | refine LeO.bind ?_ (fun _ => ?_)
theorem pomaderef07_partners.mono : ∀ a0 k, LeO (pomaderef07_partners.f k a0) (pomaderef07_partners.f (k + 1) a0) := by
 intro a0 k
 have ih0 := pomaderef07_partners.mono_l k
 unfold pomaderef07_partners.f
 repeat' first
   | (with_reducible exact ih0 _ _ _ _)
   | (with_reducible exact LeO.refl _)
   | (with_reducible exact LeO.none _)
   | (with_reducible refine LeO.ite ?_ ?_)
   | (with_reducible refine LeO.bind ?_ (fun _ => ?_))
   | exact ih0 _ _ _ _
   | exact LeO.none _
   | refine LeO.ite ?_ ?_
   | refine LeO.bind ?_ (fun _ => ?_)
set_option maxHeartbeats 8000000 in
set_option maxRecDepth 100000 in
theorem pomaderef07_partners.calls (k : Nat) (a0 : ByteArray) (r1 : List Int) (r2 : Bool) (w : World) (h : pomaderef07_partners.f k a0 = some (r1, r2)) :
  Calls Try.prog 64 #[.string a0] w fun e w' => ∃ v0_ : Value, e = .returned (.tuple #[v0_, .bool r2]) ∧ Kd.R (Kd.int .i64) 3 w' w.heap.size (fun _ => True) v0_ r1 ∧ Below w.heap.size w w' := by
 have HB := Aside0.mk (Below.refl w.heap.size w)
 have H : (if 0 ≤ (a0.size : Int) then (if ((a0.size : Int) : Int).toNat ≤ 35184372088832 then (pomaderef07_partners.l0 k a0 (List.replicate ((a0.size : Int) : Int).toNat 0) ([] : List Int) 0) else (none)) else (none)) = some (r1, r2) := h
 clear h
 by_cases c2 : 0 ≤ (a0.size : Int)
 ·rw [if_pos c2] at H
  have c2b0 := eq_true c2
  have c2b1 : decide (0 ≤ (a0.size : Int)) = true := decide_eq_true c2
  clear c2
  by_cases c3 : ((a0.size : Int) : Int).toNat ≤ 35184372088832
  ·rw [if_pos c3] at H
   have c3b0 := eq_true c3
   have c3b1 : decide (((a0.size : Int) : Int).toNat ≤ 35184372088832) = true := decide_eq_true c3
   clear c3
   obtain ⟨y490, hy490⟩ : ∃ y_ : List Int, y_ = (List.replicate ((a0.size : Int) : Int).toNat 0) := ⟨_, rfl⟩
   replace H : (pomaderef07_partners.l0 k a0 y490 ([] : List Int) 0) = some (r1, r2) := by first | (rw [hy490]; with_reducible exact H) | (have H2_ := (Option.bind_some _ _).symm.trans H; rw [hy490]; with_reducible exact H2_) | (have H2_ := (Option.bind_some _ _).symm.trans H; with_reducible exact H2_) | with_reducible exact H | (rw [hy490]; exact H) | exact H
   have Ny490 := Aside0.mk hy490
   clear hy490
   have H' := Aside0.mk H
   clear H
   go_enter Try.func64, Try.ntmps64
   go_wp2_with (first | ((with_reducible refine gate_dst (N := 10) rfl ?_); (try (refine gate_guard (by rfl) ?_; dsimp only)); refine Kd.R_make (Kd.int .i64) _ 3 rfl (N := 10) rfl 22 _ _ rfl (a0.size : Int) rfl rfl Try.underlying22 (.int .i64 0) 8 info3 rfl (by decide) (by omega) 0 (ok := fun _ => True) (okp := fun _ => True) rfl (fun _ hk => hk) trivial (of_decide_eq_true (by first | (with_reducible assumption) | assumption)) (Nat.le_trans (Nat.mul_le_mul_right _ (of_decide_eq_true (by first | (with_reducible assumption) | assumption) : (a0.size : Int).toNat ≤ 35184372088832)) (by omega)) (Below.refl _ _) (Nat.le_refl _) ?_; intro v491 w4 ho5 hb hg_ hnew_; clear hg_ hnew_; (first | rw [← Ny490.out] at ho5 | (simp only [Int.reduceToNat] at ho5; rw [← Ny490.out] at ho5)); have n0_ := Aside0.mk (Kd.R_lower ho5 (below_size (by repeat (first | (with_reducible first | exact HB.out | apply below_alloc | apply pw_below_drewN | apply below_drew1) | exact HB.out)))); have n1_ := Aside0.mk (below_step (by repeat (first | (with_reducible first | exact HB.out | apply below_alloc | apply pw_below_drewN | apply below_drew1) | exact HB.out)) hb); clear HB; have HO492 := n0_; have HB := n1_; clear n0_ n1_; clear hb ho5))
   go_loopg [5, 6] k (fun kq v5 v6 w' => ∃ (x4_1 : List Int) (x5_1 : List Int) (x6_1 : Int), v6 = .int .i64 x6_1 ∧ Aside0 (pomaderef07_partners.l0 kq a0 x4_1 x5_1 x6_1 = some (r1, r2)) ∧ Aside0 (kq ≤ k) ∧ Aside0 (Kd.R (Kd.int .i64) 3 w' w.heap.size (fun k_ => some k_ ≠ (v5 : Value).ownBlock) v491 x4_1) ∧ Aside0 (Kd.R (Kd.int .i64) 3 w' w.heap.size (fun k_ => some k_ ≠ (v491 : Value).ownBlock) v5 x5_1) ∧ Aside0 (Below w.heap.size w w'))
   case atStart => exact ⟨(y490), (([] : List Int)), (0), (by first | rfl | (simp; done) | (simp [*]; done)), H', ⟨Nat.le_refl _⟩, ⟨by (with_reducible repeat (first | apply Kd.R_alloc | apply Kd.R_drewN | apply Kd.R_drew)); exact Kd.R_mono HO492.out (fun _ hk => (by simp [Value.ownBlock]))⟩, ⟨by first | exact Kd.R_nil _ _ _ _ _ | exact Kd.N_nil _ _ _ _ _ | exact Kd.V_nil _ _ _ _ _ | exact Kd.Q_nil _ _ _ _ _ | exact Kd.S_nil _ _ _ _ _⟩, ⟨by repeat (first | (with_reducible first | exact HB.out | apply below_alloc | apply pw_below_drewN | apply below_drew1) | exact HB.out)⟩⟩
   case round =>
    clear H'
    try clear c2
    try clear c2b0
    try clear c2b1
    try clear p2
    try clear c3
    try clear c3b0
    try clear c3b1
    obtain ⟨x4_1, x5_1, x6_1, rfl, HA, HK1, HO_4, HO_5, HB⟩ := hrel
    cases gk with
    | zero => exact absurd HA.out (by simp [pomaderef07_partners.l0])
    | succ k1 =>
     have H := HA.out
     clear HA
     simp only [pomaderef07_partners.l0] at H
     by_cases c6 : x6_1 < (a0.size : Int)
     ·rw [if_pos c6] at H
      have c6b0 : decide (x6_1 < (a0.size : Int)) = true := decide_eq_true c6
      clear c6
      by_cases c7 : 0 ≤ x6_1
      ·rw [if_pos c7] at H
       have c7b0 : decide (0 ≤ x6_1) = true := decide_eq_true c7
       clear c7
       by_cases c9 : (bt a0 x6_1) = 40
       ·rw [if_pos c9] at H
        have c9b0 : ((bt a0 x6_1) == 40) = true := beq_iff_eq.mpr c9
        have c9b1 : ((bt a0 x6_1) != 40) = false := bne_eq_false_iff_eq.mpr c9
        clear c9
        by_cases c10 : x5_1.length < 17592186044416
        ·rw [if_pos c10] at H
         have LMc10 := Aside0.mk c10
         clear c10
         obtain ⟨y493, hy493⟩ : ∃ y_ : List Int, y_ = (x5_1 ++ [x6_1]) := ⟨_, rfl⟩
         replace H : (pomaderef07_partners.l0 k1 a0 x4_1 y493 (wrap64 (x6_1 + 1))) = some (r1, r2) := by first | (rw [hy493]; with_reducible exact H) | (have H2_ := (Option.bind_some _ _).symm.trans H; rw [hy493]; with_reducible exact H2_) | (have H2_ := (Option.bind_some _ _).symm.trans H; with_reducible exact H2_) | with_reducible exact H | (rw [hy493]; exact H) | exact H
         have Ny493 := Aside0.mk hy493
         clear hy493
         have H' := Aside0.mk H
         clear H
         have p8 : 0 ≤ (x6_1 : Int) := of_decide_eq_true (by first | (with_reducible assumption) | assumption)
         have q8 : x6_1 < (a0.size : Int) := of_decide_eq_true (by first | (with_reducible assumption) | assumption)
         have hx8 := bt_at a0 x6_1
         replace p8 := eq_true p8
         replace q8 := eq_true q8
         go_wp2_with (first | ((with_reducible refine gate_builtin (b := .append) (xs := #[.tmp 22, .tmp 24]) rfl ?_); (try (refine gate_guard (by rfl) ?_; dsimp only)); at_builtin; refine Kd.R_append (Kd.int .i64) (w0 := w) w.heap.size rfl (.tmp 22) (.tmp 24) 22 3 (.int .i64 0) 8 rfl Try.underlying22 info3 rfl (by decide) (by omega) u5 x5_1 x6_1 [.int .i64 x6_1] (fun k_ => some k_ ≠ (v491 : Value).ownBlock) (fun _ => False) rfl rfl ?aP (fun _ hk => hk.elim) ?aF ?aO ?aB ?aS ?aL ?_; (case aP => exact rfl); (case aB => exact (by repeat (first | (with_reducible first | exact HB.out | apply below_alloc | apply pw_below_drewN | apply below_drew1) | exact HB.out))); (case aF => exact (fun k_ hk => Kd.fresh' (Kd.R_lt (by (with_reducible repeat (first | apply Kd.R_alloc | apply Kd.R_drewN | apply Kd.R_drew)); exact HO_4.out)) k_ hk)); (case aO => exact (by (with_reducible repeat (first | apply Kd.R_alloc | apply Kd.R_drewN | apply Kd.R_drew)); exact HO_5.out)); (case aS => exact (below_size (by repeat (first | (with_reducible first | exact HB.out | apply below_alloc | apply pw_below_drewN | apply below_drew1) | exact HB.out)))); (case aL => have := LMc10.out; omega); intro v494 w11 ho hb hg hat; rw [← Ny493.out] at ho; have n0_ := Aside0.mk (Kd.R_after (ok := (fun _ => True)) (by (with_reducible repeat (first | apply Kd.R_alloc | apply Kd.R_drewN | apply Kd.R_drew)); exact Kd.R_mono HO_4.out (fun _ hk => ⟨trivial, hk⟩)) hg hat); have n1_ := Aside0.mk (hb); have n2_ := Aside0.mk (ho); clear HO_4; clear HB; clear HO_5; have HO_4 := n0_; have HB := n1_; have HO495 := n2_; clear n0_ n1_ n2_; clear ho hb hg hat))
         go_roundg k1
         case measure => have := HK1.out; omega
         case rel => exact ⟨(x4_1), (y493), (wrap64 (x6_1 + 1)), (by first | rfl | (simp; done) | (simp [*]; done)), H', ⟨by have := HK1.out; omega⟩, ⟨by (with_reducible repeat (first | apply Kd.R_alloc | apply Kd.R_drewN | apply Kd.R_drew)); exact Kd.R_mono HO_4.out (fun _ hk => hk.2)⟩, ⟨by (with_reducible repeat (first | apply Kd.R_alloc | apply Kd.R_drewN | apply Kd.R_drew)); exact HO495.out⟩, ⟨by repeat (first | (with_reducible first | exact HB.out | apply below_alloc | apply pw_below_drewN | apply below_drew1) | exact HB.out)⟩⟩
        ·rw [if_neg c10] at H
         exact absurd H (by simp)
       ·rw [if_neg c9] at H
        have c9b0 : ((bt a0 x6_1) == 40) = false := beq_eq_false_iff_ne.mpr c9
        have c9b1 : ((bt a0 x6_1) != 40) = true := bne_iff_ne.mpr c9
        by_cases c13 : (bt a0 x6_1) = 41
        ·rw [if_pos c13] at H
         have c13b0 : ((bt a0 x6_1) == 41) = true := beq_iff_eq.mpr c13
         have c13b1 : ((bt a0 x6_1) != 41) = false := bne_eq_false_iff_eq.mpr c13
         clear c13
         by_cases c14 : (x5_1.length : Int) > 0
         ·rw [if_pos c14] at H
          have c14b0 : decide (0 < (x5_1.length : Int)) = true := decide_eq_true c14
          have c14b1 : decide (0 < x5_1.length) = true := decide_eq_true (by omega)
          clear c14
          obtain ⟨ji15, hji15⟩ : ∃ j_ : Int, (wrap64 ((x5_1.length : Int) - 1)) = j_ := ⟨_, rfl⟩
          replace H : (if 0 ≤ (ji15) then (if (ji15) < (x5_1.length : Int) then (if (ji15) ≤ (x5_1.length : Int) then (if x6_1 < (x4_1.length : Int) then (if 0 ≤ (rd x5_1 (ji15)) then (if (rd x5_1 (ji15)) < (x4_1.length : Int) then (pomaderef07_partners.l0 k1 a0 ((x4_1.set (x6_1 : Int).toNat (rd x5_1 (ji15))).set ((rd x5_1 (ji15)) : Int).toNat x6_1) (x5_1.take ((ji15) : Int).toNat) (wrap64 (x6_1 + 1))) else (none)) else (none)) else (none)) else (none)) else (none)) else (none)) = some (r1, r2) := by first | (rw [hji15] at H; exact H) | (simp only [hji15] at H ⊢; exact H)
          have hji15w : (IntKind.i64.wrap ((x5_1.length : Int) - 1)) = ji15 := (i64_w _).trans hji15
          by_cases c16 : 0 ≤ (ji15)
          ·rw [if_pos c16] at H
           have c16b0 : decide (0 ≤ (ji15)) = true := decide_eq_true c16
           clear c16
           by_cases c17 : (ji15) < (x5_1.length : Int)
           ·rw [if_pos c17] at H
            have c17b0 : decide ((ji15) < (x5_1.length : Int)) = true := decide_eq_true c17
            clear c17
            by_cases c18 : (ji15) ≤ (x5_1.length : Int)
            ·rw [if_pos c18] at H
             have c18b0 := eq_true c18
             have c18b1 : decide ((ji15) ≤ (x5_1.length : Int)) = true := decide_eq_true c18
             clear c18
             obtain ⟨y497, hy497⟩ : ∃ y_ : List Int, y_ = (x5_1.take ((ji15) : Int).toNat) := ⟨_, rfl⟩
             replace H : (if x6_1 < (x4_1.length : Int) then (if 0 ≤ (rd x5_1 (ji15)) then (if (rd x5_1 (ji15)) < (x4_1.length : Int) then (pomaderef07_partners.l0 k1 a0 ((x4_1.set (x6_1 : Int).toNat (rd x5_1 (ji15))).set ((rd x5_1 (ji15)) : Int).toNat x6_1) y497 (wrap64 (x6_1 + 1))) else (none)) else (none)) else (none)) = some (r1, r2) := by first | (rw [hy497]; with_reducible exact H) | (have H2_ := (Option.bind_some _ _).symm.trans H; rw [hy497]; with_reducible exact H2_) | (have H2_ := (Option.bind_some _ _).symm.trans H; with_reducible exact H2_) | with_reducible exact H | (rw [hy497]; exact H) | exact H
             have Ny497 := Aside0.mk hy497
             clear hy497
             by_cases c19 : x6_1 < (x4_1.length : Int)
             ·rw [if_pos c19] at H
              have c19b0 : decide (x6_1 < (x4_1.length : Int)) = true := decide_eq_true c19
              clear c19
              obtain ⟨y500, hy500⟩ : ∃ y_ : List Int, y_ = (x4_1.set (x6_1 : Int).toNat (rd x5_1 (ji15))) := ⟨_, rfl⟩
              replace H : (if 0 ≤ (rd x5_1 (ji15)) then (if (rd x5_1 (ji15)) < (x4_1.length : Int) then (pomaderef07_partners.l0 k1 a0 (y500.set ((rd x5_1 (ji15)) : Int).toNat x6_1) y497 (wrap64 (x6_1 + 1))) else (none)) else (none)) = some (r1, r2) := by first | (rw [hy500]; with_reducible exact H) | (have H2_ := (Option.bind_some _ _).symm.trans H; rw [hy500]; with_reducible exact H2_) | (have H2_ := (Option.bind_some _ _).symm.trans H; with_reducible exact H2_) | with_reducible exact H | (rw [hy500]; exact H) | exact H
              have Ny500 := Aside0.mk hy500
              clear hy500
              by_cases c21 : 0 ≤ (rd x5_1 (ji15))
              ·rw [if_pos c21] at H
               have c21b0 : decide (0 ≤ (rd x5_1 (ji15))) = true := decide_eq_true c21
               clear c21
               by_cases c22 : (rd x5_1 (ji15)) < (x4_1.length : Int)
               ·rw [if_pos c22] at H
                have c22b0 : decide ((rd x5_1 (ji15)) < (x4_1.length : Int)) = true := decide_eq_true c22
                clear c22
                obtain ⟨y501, hy501⟩ : ∃ y_ : List Int, y_ = (y500.set ((rd x5_1 (ji15)) : Int).toNat x6_1) := ⟨_, rfl⟩
                replace H : (pomaderef07_partners.l0 k1 a0 y501 y497 (wrap64 (x6_1 + 1))) = some (r1, r2) := by first | (rw [hy501]; with_reducible exact H) | (have H2_ := (Option.bind_some _ _).symm.trans H; rw [hy501]; with_reducible exact H2_) | (have H2_ := (Option.bind_some _ _).symm.trans H; with_reducible exact H2_) | with_reducible exact H | (rw [hy501]; exact H) | exact H
                have Ny501 := Aside0.mk hy501
                clear hy501
                have H' := Aside0.mk H
                clear H
                have p8 : 0 ≤ (x6_1 : Int) := of_decide_eq_true (by first | (with_reducible assumption) | assumption)
                have q8 : x6_1 < (a0.size : Int) := of_decide_eq_true (by first | (with_reducible assumption) | assumption)
                have hx8 := bt_at a0 x6_1
                replace p8 := eq_true p8
                replace q8 := eq_true q8
                have p12 : 0 ≤ (x6_1 : Int) := of_decide_eq_true (by first | (with_reducible assumption) | assumption)
                have q12 : x6_1 < (a0.size : Int) := of_decide_eq_true (by first | (with_reducible assumption) | assumption)
                have hx12 := bt_at a0 x6_1
                replace p12 := eq_true p12
                replace q12 := eq_true q12
                obtain ⟨Ao24, co24, eo24⟩ := Kd.R_slice HO_5.out
                subst eo24
                have p496 : 0 ≤ ((ji15) : Int) := of_decide_eq_true (by first | (with_reducible assumption) | assumption)
                have q496 : (ji15) < (x5_1.length : Int) := of_decide_eq_true (by first | (with_reducible assumption) | assumption)
                obtain ⟨ad496, e496, hx496_0⟩ := Kd.at_int (Kd.R_reads' HO_5.out).2.2 (ji15) p496 q496
                cases e496
                replace p496 := eq_true p496
                replace q496 := eq_true q496
                have q25 : ((ji15) : Int) ≤ ((x5_1.length : Int) : Int) := of_decide_eq_true (by first | (with_reducible assumption) | assumption)
                obtain ⟨i025, hi025, _, hsz25, _⟩ := info_parts info3
                have hcut25 := cut_to (P := Try.prog) 22 3 .i64 Try.underlying22 hi025 (some ad496) x5_1.length co24 (ji15) (of_decide_eq_true (by first | (with_reducible assumption) | assumption)) q25 (Kd.R_reads' HO_5.out).2.1
                have hr25 := Kd.R_take (m := ((ji15) : Int).toNat) HO_5.out (by omega)
                have hy25 : y497.length = ((ji15) : Int).toNat := (by rw [Ny497.out, List.length_take]; omega)
                rw [← Ny497.out] at hr25
                rw [← hy25] at hr25 hcut25
                clear hy25 hi025 hsz25 HO_5
                have HO499 := Aside0.mk hr25
                clear hr25
                replace q25 := eq_true q25
                have p20 : 0 ≤ (x6_1 : Int) := of_decide_eq_true (by first | (with_reducible assumption) | assumption)
                have q20 : (x6_1 : Int) < ((x4_1.length : Int) : Int) := of_decide_eq_true (by first | (with_reducible assumption) | assumption)
                obtain ⟨go20, co20, eo20, gb20, gl20, cl20, HG20⟩ := Kd.R_form HO_4.out (by omega)
                (first | cases eo20 | (injection eo20 with ea_ en_ ec_; (first | subst ea_ | (injection ea_ with ea_; subst ea_)); subst ec_; clear en_))
                have GB20 := Aside0.mk gb20
                have GG20 := Aside0.mk HG20
                clear gb20 gl20 HG20
                obtain ⟨hx20_0, hf20_0⟩ := Kd.R_celln 0 HO_4.out (x6_1 : Int) p20 q20
                replace p20 := eq_true p20
                replace q20 := eq_true q20
                have HP26 := Kd.R_putg HO_4.out (x6_1 : Int) (rd x5_1 (ji15))
                go_wp2_with (first | ((with_reducible refine gate_store (t := 3) (p := 50) rfl ?_); refine store_event (t := 3) (p := 50) (v := ?vo_w27) (w1 := (wr.setCell ⟨go20, (x6_1 : Int).toNat, none⟩ (.int .i64 (rd x5_1 (ji15))))) ?hg ?ho ?hn ?hr ?_; (case ho => rfl); (case hg => rfl); (case hn => rfl); (case hr => first | (go_simp; done) | (go_simp; rfl)); intro w27 hw; have hg : wr.grownBy w27 (some go20) := (by rw [hw]; exact HP26.2); have hp_ : Kd.R (Kd.int .i64) 3 w27 w.heap.size (fun k_ => some k_ ≠ (.slice (some ad496) y497.length co24 : Value).ownBlock) (.slice (some ⟨go20, 0, none⟩) x4_1.length co20) y500 := (by rw [hw, Ny500.out]; exact HP26.1); clear HP26; have n0_ := Aside0.mk (hp_); have n1_ := Aside0.mk (Kd.R_after (v := (.slice (some ⟨go20, 0, none⟩) x4_1.length co20)) (v1 := (.slice (some ⟨go20, 0, none⟩) x4_1.length co20)) (ok := (fun _ => True)) (by (with_reducible repeat (first | apply Kd.R_alloc | apply Kd.R_drewN | apply Kd.R_drew)); exact Kd.R_mono HO499.out (fun _ hk => ⟨trivial, hk⟩)) hg (.inl rfl)); have n2_ := Aside0.mk ((by rw [hw]; exact below_set (HB.out) GB20.out : Below w.heap.size w w27)); clear HO_4; clear HO499; clear HB; have HO_4 := n0_; have HO499 := n1_; have HB := n2_; clear n0_ n1_ n2_; clear hg hw hp_; have p23 : 0 ≤ ((rd x5_1 (ji15)) : Int) := of_decide_eq_true (by first | (with_reducible assumption) | assumption); have q23 : ((rd x5_1 (ji15)) : Int) < ((x4_1.length : Int) : Int) := of_decide_eq_true (by first | (with_reducible assumption) | assumption); obtain ⟨hx23_0, hf23_0⟩ := Kd.R_celln 0 HO_4.out ((rd x5_1 (ji15)) : Int) p23 q23; replace p23 := eq_true p23; replace q23 := eq_true q23; obtain ⟨hy28_, hz28_⟩ := Kd.R_celln 0 HO_4.out ((rd x5_1 (ji15)) : Int) (of_decide_eq_true (by first | (with_reducible assumption) | assumption)) (of_decide_eq_true (by first | (with_reducible assumption) | assumption)); have HP28 := Kd.R_putg HO_4.out ((rd x5_1 (ji15)) : Int) x6_1) | ((with_reducible refine gate_store (t := 3) (p := 54) rfl ?_); refine store_event (t := 3) (p := 54) (v := ?vo_w29) (w1 := (w27.setCell ⟨go20, ((rd x5_1 (ji15)) : Int).toNat, none⟩ (.int .i64 x6_1))) ?hg ?ho ?hn ?hr ?_; (case ho => rfl); (case hg => rfl); (case hn => rfl); (case hr => first | (go_simp; done) | (go_simp; rfl)); intro w29 hw; have hg : w27.grownBy w29 (some go20) := (by rw [hw]; exact HP28.2); have hp_ : Kd.R (Kd.int .i64) 3 w29 w.heap.size (fun k_ => some k_ ≠ (.slice (some ad496) y497.length co24 : Value).ownBlock) (.slice (some ⟨go20, 0, none⟩) x4_1.length co20) y501 := (by rw [hw, Ny501.out]; exact HP28.1); clear HP28; have n0_ := Aside0.mk (hp_); have n1_ := Aside0.mk (Kd.R_after (v := (.slice (some ⟨go20, 0, none⟩) x4_1.length co20)) (v1 := (.slice (some ⟨go20, 0, none⟩) x4_1.length co20)) (ok := (fun _ => True)) (by (with_reducible repeat (first | apply Kd.R_alloc | apply Kd.R_drewN | apply Kd.R_drew)); exact HO499.out) hg (.inl rfl)); have n2_ := Aside0.mk ((by rw [hw]; exact below_set (HB.out) GB20.out : Below w.heap.size w w29)); clear HO_4; clear HO499; clear HB; have HO_4 := n0_; have HO499 := n1_; have HB := n2_; clear n0_ n1_ n2_; clear hg hw hp_))
                go_roundg k1
                case measure => have := HK1.out; omega
                case rel => exact ⟨(y501), (y497), (wrap64 (x6_1 + 1)), (by first | rfl | (simp; done) | (simp [*]; done)), H', ⟨by have := HK1.out; omega⟩, ⟨by (with_reducible repeat (first | apply Kd.R_alloc | apply Kd.R_drewN | apply Kd.R_drew)); exact HO_4.out⟩, ⟨by (with_reducible repeat (first | apply Kd.R_alloc | apply Kd.R_drewN | apply Kd.R_drew)); exact Kd.R_mono HO499.out (fun _ hk => hk.2)⟩, ⟨by repeat (first | (with_reducible first | exact HB.out | apply below_alloc | apply pw_below_drewN | apply below_drew1) | exact HB.out)⟩⟩
               ·rw [if_neg c22] at H
                exact absurd H (by simp)
              ·rw [if_neg c21] at H
               exact absurd H (by simp)
             ·rw [if_neg c19] at H
              exact absurd H (by simp)
            ·rw [if_neg c18] at H
             exact absurd H (by simp)
           ·rw [if_neg c17] at H
            exact absurd H (by simp)
          ·rw [if_neg c16] at H
           exact absurd H (by simp)
         ·rw [if_neg c14] at H
          have c14b0 : decide (0 < (x5_1.length : Int)) = false := decide_eq_false c14
          have c14b1 : decide (0 < x5_1.length) = false := decide_eq_false (by omega)
          clear c14
          simp only [Option.some.injEq, Prod.mk.injEq] at H
          obtain ⟨rfl, rfl⟩ := H
          have p8 : 0 ≤ (x6_1 : Int) := of_decide_eq_true (by first | (with_reducible assumption) | assumption)
          have q8 : x6_1 < (a0.size : Int) := of_decide_eq_true (by first | (with_reducible assumption) | assumption)
          have hx8 := bt_at a0 x6_1
          replace p8 := eq_true p8
          replace q8 := eq_true q8
          have p12 : 0 ≤ (x6_1 : Int) := of_decide_eq_true (by first | (with_reducible assumption) | assumption)
          have q12 : x6_1 < (a0.size : Int) := of_decide_eq_true (by first | (with_reducible assumption) | assumption)
          have hx12 := bt_at a0 x6_1
          replace p12 := eq_true p12
          replace q12 := eq_true q12
          obtain ⟨Ao30, co30, eo30⟩ := Kd.R_slice HO_5.out
          subst eo30
          go_wp2
          go_ret2
          exact ⟨_, by first | rfl | (simp [errW_none, errW_some] <;> rfl) | (simp [*, errW_none, errW_some] <;> rfl), by first | exact Kd.R_nil _ _ _ _ _ | exact Kd.N_nil _ _ _ _ _ | exact Kd.V_nil _ _ _ _ _ | exact Kd.Q_nil _ _ _ _ _ | exact Kd.S_nil _ _ _ _ _, by repeat (first | (with_reducible first | exact HB.out | apply below_alloc | apply pw_below_drewN | apply below_drew1) | exact HB.out)⟩
        ·rw [if_neg c13] at H
         have c13b0 : ((bt a0 x6_1) == 41) = false := beq_eq_false_iff_ne.mpr c13
         have c13b1 : ((bt a0 x6_1) != 41) = true := bne_iff_ne.mpr c13
         simp only [Option.some.injEq, Prod.mk.injEq] at H
         obtain ⟨rfl, rfl⟩ := H
         have p8 : 0 ≤ (x6_1 : Int) := of_decide_eq_true (by first | (with_reducible assumption) | assumption)
         have q8 : x6_1 < (a0.size : Int) := of_decide_eq_true (by first | (with_reducible assumption) | assumption)
         have hx8 := bt_at a0 x6_1
         replace p8 := eq_true p8
         replace q8 := eq_true q8
         have p12 : 0 ≤ (x6_1 : Int) := of_decide_eq_true (by first | (with_reducible assumption) | assumption)
         have q12 : x6_1 < (a0.size : Int) := of_decide_eq_true (by first | (with_reducible assumption) | assumption)
         have hx12 := bt_at a0 x6_1
         replace p12 := eq_true p12
         replace q12 := eq_true q12
         go_wp2
         go_ret2
         exact ⟨_, by first | rfl | (simp [errW_none, errW_some] <;> rfl) | (simp [*, errW_none, errW_some] <;> rfl), by first | exact Kd.R_nil _ _ _ _ _ | exact Kd.N_nil _ _ _ _ _ | exact Kd.V_nil _ _ _ _ _ | exact Kd.Q_nil _ _ _ _ _ | exact Kd.S_nil _ _ _ _ _, by repeat (first | (with_reducible first | exact HB.out | apply below_alloc | apply pw_below_drewN | apply below_drew1) | exact HB.out)⟩
      ·rw [if_neg c7] at H
       exact absurd H (by simp)
     ·rw [if_neg c6] at H
      have c6b0 : decide (x6_1 < (a0.size : Int)) = false := decide_eq_false c6
      clear c6
      by_cases c31 : (a0.size : Int) > 0
      ·rw [if_pos c31] at H
       have c31b0 : decide (0 < (a0.size : Int)) = true := decide_eq_true c31
       have c31b1 : decide (0 < a0.size) = true := decide_eq_true (by omega)
       clear c31
       simp only [Option.some.injEq, Prod.mk.injEq] at H
       obtain ⟨rfl, rfl⟩ := H
       obtain ⟨Ao32, co32, eo32⟩ := Kd.R_slice HO_5.out
       subst eo32
       go_wp2
       go_ret2
       exact ⟨_, by first | rfl | (simp [errW_none, errW_some] <;> rfl) | (simp [*, errW_none, errW_some] <;> rfl), by (with_reducible repeat (first | apply Kd.R_alloc | apply Kd.R_drewN | apply Kd.R_drew)); exact Kd.R_mono HO_4.out (fun _ hk => trivial), by repeat (first | (with_reducible first | exact HB.out | apply below_alloc | apply pw_below_drewN | apply below_drew1) | exact HB.out)⟩
      ·rw [if_neg c31] at H
       have c31b0 : decide (0 < (a0.size : Int)) = false := decide_eq_false c31
       have c31b1 : decide (0 < a0.size) = false := decide_eq_false (by omega)
       clear c31
       simp only [Option.some.injEq, Prod.mk.injEq] at H
       obtain ⟨rfl, rfl⟩ := H
       go_wp2
       go_ret2
       exact ⟨_, by first | rfl | (simp [errW_none, errW_some] <;> rfl) | (simp [*, errW_none, errW_some] <;> rfl), by (with_reducible repeat (first | apply Kd.R_alloc | apply Kd.R_drewN | apply Kd.R_drew)); exact Kd.R_mono HO_4.out (fun _ hk => trivial), by repeat (first | (with_reducible first | exact HB.out | apply below_alloc | apply pw_below_drewN | apply below_drew1) | exact HB.out)⟩
  ·rw [if_neg c3] at H
   exact absurd H (by simp)
 ·rw [if_neg c2] at H
  exact absurd H (by simp)
/-! ### pomaderef07_System: function 37 -/
def pomaderef07_System.f (k : Nat) (a0 : ByteArray) : Option (Int) := if (a0.size : Int) > 24 then (some 3) else ((pomaderef07_partners.f k a0).bind fun bt502 => (if bt502.2 = true then (some 0) else (some 5)))
theorem pomaderef07_System.mono : ∀ a0 k, LeO (pomaderef07_System.f k a0) (pomaderef07_System.f (k + 1) a0) := by
 intro a0 k
 unfold pomaderef07_System.f
 repeat' first
   | (with_reducible exact pomaderef07_partners.mono _ _)
   | (with_reducible exact LeO.refl _)
   | (with_reducible exact LeO.none _)
   | (with_reducible refine LeO.ite ?_ ?_)
   | (with_reducible refine LeO.bind ?_ (fun _ => ?_))
   | exact pomaderef07_partners.mono _ _
   | exact LeO.none _
   | refine LeO.ite ?_ ?_
   | refine LeO.bind ?_ (fun _ => ?_)
set_option maxHeartbeats 8000000 in
set_option maxRecDepth 100000 in
theorem pomaderef07_System.calls (k : Nat) (a0 : ByteArray) (r : Int) (w : World) (h : pomaderef07_System.f k a0 = some r) :
  Calls Try.prog 37 #[.string a0] w fun e w' => e = .returned (.int .i64 r) ∧ Below w.heap.size w w' := by
 have HB := Aside0.mk (Below.refl w.heap.size w)
 have H : (if (a0.size : Int) > 24 then (some 3) else ((pomaderef07_partners.f k a0).bind fun bt502 => (if bt502.2 = true then (some 0) else (some 5)))) = some r := h
 clear h
 by_cases c2 : (a0.size : Int) > 24
 ·rw [if_pos c2] at H
  have c2b0 : decide (24 < (a0.size : Int)) = true := decide_eq_true c2
  have c2b1 : decide (24 < a0.size) = true := decide_eq_true (by omega)
  clear c2
  obtain rfl := Option.some.inj H
  go_enter Try.func37, Try.ntmps37
  go_wp2
  go_ret
  exact ⟨by first | rfl | (simp [errW_none, errW_some] <;> rfl) | (simp [*, errW_none, errW_some] <;> rfl), by repeat (first | (with_reducible first | exact HB.out | apply below_alloc | apply pw_below_drewN | apply below_drew1) | exact HB.out)⟩
 ·rw [if_neg c2] at H
  have c2b0 : decide (24 < (a0.size : Int)) = false := decide_eq_false c2
  have c2b1 : decide (24 < a0.size) = false := decide_eq_false (by omega)
  clear c2
  replace H := Option.bind_eq_some_iff.mp H
  obtain ⟨⟨t502, t503⟩, A30, H⟩ := H
  replace H : (if t503 = true then (some 0) else (some 5)) = some r := H
  have A3 := Aside0.mk A30
  clear A30
  by_cases c4 : t503 = true
  ·subst c4
   have H1 : (some 0) = some r := by rw [if_pos rfl] at H; exact H
   clear H
   have H := H1
   clear H1
   obtain rfl := Option.some.inj H
   go_enter Try.func37, Try.ntmps37
   go_wp2_with (first | ((with_reducible refine gate_callee (f := 64) rfl ?_); refine goesL_ (some 10) rfl rfl Try.func64 (by kernel_rfl) rfl #[.string a0] rfl (by (try simp only [List.map_toArray, List.map_cons, List.map_nil]); first | done | rfl | (simp only [List.length_drop, List.length_take]; rfl)) ?_; (with_reducible refine (pomaderef07_partners.calls k a0 t502 true _ A3.out).mono ?_); rintro e w5 ⟨v504, rfl, ho0, hb⟩; refine ⟨_, rfl, ?_⟩; have n0_ := Aside0.mk (Kd.R_lower ho0 (below_size (by repeat (first | (with_reducible first | exact HB.out | apply below_alloc | apply pw_below_drewN | apply below_drew1) | exact HB.out)))); have n1_ := Aside0.mk (below_step (by repeat (first | (with_reducible first | exact HB.out | apply below_alloc | apply pw_below_drewN | apply below_drew1) | exact HB.out)) hb); clear HB; have HO505 := n0_; have HB := n1_; clear n0_ n1_; (try clear hb); (try clear hb2); (try clear hk); (try clear hi); (try clear ho0)))
   go_ret
   exact ⟨by first | rfl | (simp [errW_none, errW_some] <;> rfl) | (simp [*, errW_none, errW_some] <;> rfl), by repeat (first | (with_reducible first | exact HB.out | apply below_alloc | apply pw_below_drewN | apply below_drew1) | exact HB.out)⟩
  ·replace c4 := Bool.eq_false_iff.mpr c4
   subst c4
   have H1 : (some 5) = some r := by rw [if_neg (show ¬ (false = true) by decide)] at H; exact H
   clear H
   have H := H1
   clear H1
   obtain rfl := Option.some.inj H
   go_enter Try.func37, Try.ntmps37
   go_wp2_with (first | ((with_reducible refine gate_callee (f := 64) rfl ?_); refine goesL_ (some 10) rfl rfl Try.func64 (by kernel_rfl) rfl #[.string a0] rfl (by (try simp only [List.map_toArray, List.map_cons, List.map_nil]); first | done | rfl | (simp only [List.length_drop, List.length_take]; rfl)) ?_; (with_reducible refine (pomaderef07_partners.calls k a0 t502 false _ A3.out).mono ?_); rintro e w6 ⟨v504, rfl, ho0, hb⟩; refine ⟨_, rfl, ?_⟩; have n0_ := Aside0.mk (Kd.R_lower ho0 (below_size (by repeat (first | (with_reducible first | exact HB.out | apply below_alloc | apply pw_below_drewN | apply below_drew1) | exact HB.out)))); have n1_ := Aside0.mk (below_step (by repeat (first | (with_reducible first | exact HB.out | apply below_alloc | apply pw_below_drewN | apply below_drew1) | exact HB.out)) hb); clear HB; have HO505 := n0_; have HB := n1_; clear n0_ n1_; (try clear hb); (try clear hb2); (try clear hk); (try clear hi); (try clear ho0)))
   go_ret
   exact ⟨by first | rfl | (simp [errW_none, errW_some] <;> rfl) | (simp [*, errW_none, errW_some] <;> rfl), by repeat (first | (with_reducible first | exact HB.out | apply below_alloc | apply pw_below_drewN | apply below_drew1) | exact HB.out)⟩
end Go.Proofs.Ytjfkompfkgjdaaa.PC
end
section
/- Arch systems: the partners of the points, and the closed curves of two of them, by the program and by the specification. -/
namespace Go.Proofs.Ytjfkompfkgjdaaa.L
open Go.RowKit Go.Proofs.Ytjfkompfkgjdaaa.PC Go.Proofs.YtjfkompfkgjdaaaW.PrintWords Go.Proofs.YtjfkompfkgjdaaaW.PrintLast
theorem pw64 {x : Int} (h0 : -9223372036854775808 ≤ x) (h1 : x ≤ 9223372036854775807) : wrap64 x = x := by unfold wrap64; omega
/-- how many opening brackets among the first i bytes -/
def opn (s : ByteArray) : Nat → Nat
  | 0 => 0
  | i + 1 => opn s i + if bt s (i : Int) = 40 then 1 else 0
theorem opn_le (s : ByteArray) (i : Nat) : opn s i ≤ i := by
  induction i with
  | zero => simp [opn]
  | succ i ih => simp only [opn]; split <;> omega
/-- the partners from byte q on: the list and the points that are still open -/
def partL (s : ByteArray) : Nat → Nat → List Int → List Int → Option (List Int × List Int)
  | 0, _, out, op => some (out, op)
  | d + 1, q, out, op =>
    if bt s (q : Int) = 40 then partL s d (q + 1) out (op ++ [(q : Int)])
    else if bt s (q : Int) = 41 then (if op.length = 0 then none else partL s d (q + 1) ((out.set q (rd op ((op.length : Int) - 1))).set (rd op ((op.length : Int) - 1)).toNat (q : Int)) (op.take (op.length - 1)))
    else none
structure Inv (s : ByteArray) (q : Nat) (out op : List Int) : Prop where
  len : out.length = s.size
  frng : ∀ x ∈ out, 0 ≤ x ∧ (x < (s.size : Int) ∨ s.size = 0)
  fop : ∀ x ∈ op, 0 ≤ x ∧ x < (q : Int)
  cnt : op.length + q = 2 * opn s q
  br : ∀ i : Nat, i < q → bt s (i : Int) = 40 ∨ bt s (i : Int) = 41
  dep : ∀ i : Nat, i ≤ q → i ≤ 2 * opn s i
theorem mem_set {l : List Int} {i : Nat} {v x : Int} (h : x ∈ l.set i v) : x ∈ l ∨ x = v := List.mem_or_eq_of_mem_set h
theorem Inv.open_ {s : ByteArray} {q : Nat} {out op : List Int} (h : Inv s q out op) (hb : bt s (q : Int) = 40) : Inv s (q + 1) out (op ++ [(q : Int)]) := by
  have hc : opn s (q + 1) = opn s q + 1 := by simp [opn, hb]
  refine ⟨h.len, h.frng, fun x hx => ?_, by have := h.cnt; simp; omega, fun i hi => ?_, fun i hi => ?_⟩
  · rcases List.mem_append.1 hx with hx | hx
    · have := h.fop x hx; omega
    · simp at hx; omega
  · by_cases e : i = q
    · rw [e]; exact Or.inl hb
    · exact h.br i (by omega)
  · by_cases e : i = q + 1
    · have := h.cnt; rw [e]; omega
    · exact h.dep i (by omega)
theorem rd_last {op : List Int} (h : op.length ≠ 0) : rd op ((op.length : Int) - 1) ∈ op := by
  have e : ((op.length : Int) - 1).toNat = op.length - 1 := by omega
  simp [rd, List.getD_eq_getElem?_getD, e, show op.length - 1 < op.length by omega]
theorem Inv.shut {s : ByteArray} {q : Nat} {out op : List Int} (h : Inv s q out op) (hq : q < s.size) (hb : bt s (q : Int) = 41) (ho : op.length ≠ 0) : Inv s (q + 1) ((out.set q (rd op ((op.length : Int) - 1))).set (rd op ((op.length : Int) - 1)).toNat (q : Int)) (op.take (op.length - 1)) := by
  have hc : opn s (q + 1) = opn s q := by simp [opn, hb]
  have hl := h.fop _ (rd_last ho)
  have hcnt := h.cnt
  refine ⟨by simpa using h.len, fun x hx => ?_, fun x hx => ?_, by rw [List.length_take]; omega, fun i hi => ?_, fun i hi => ?_⟩
  · rcases mem_set hx with hx | hx
    · rcases mem_set hx with hx | hx
      · exact h.frng x hx
      · omega
    · omega
  · have := h.fop x (List.mem_of_mem_take hx); omega
  · by_cases e : i = q
    · rw [e]; exact Or.inr hb
    · exact h.br i (by omega)
  · by_cases e : i = q + 1
    · rw [e]; omega
    · exact h.dep i (by omega)
theorem part_loop (s : ByteArray) (hs : s.size ≤ 1000) (d : Nat) : ∀ (q : Nat) (out op : List Int), q + d = s.size → Inv s q out op →
    match partL s d q out op with
    | none => Ev (fun k => plait_partners.l0 k s out op (s.size : Int) (q : Int)) ([], 5) ∧ Ev (fun k => pomaderef07_partners.l0 k s out op (q : Int)) ([], false)
    | some r => Ev (fun k => plait_partners.l0 k s out op (s.size : Int) (q : Int)) (if r.2.length = 0 ∧ s.size ≠ 0 then (r.1, 0) else ([], 5)) ∧ Ev (fun k => pomaderef07_partners.l0 k s out op (q : Int)) (r.1, decide (r.2.length = 0 ∧ s.size ≠ 0)) ∧ Inv s s.size r.1 r.2 := by
  induction d with
  | zero =>
    intro q out op hq hI
    obtain rfl : q = s.size := by omega
    simp only [partL]
    refine ⟨?_, ?_, hI⟩
    · refine Ev.step (f := fun _ => some (if op.length = 0 ∧ s.size ≠ 0 then (out, 0) else ([], 5))) (fun k => ?_) (Ev.now _)
      simp only [plait_partners.l0]
      rw [if_neg (by omega)]
      by_cases c : op.length = 0
      · rw [if_neg (by omega)]
        have e0 : s.toList = [] ↔ s.size = 0 := by
          rw [Go.ByteArray.toList_eq, ← List.length_eq_zero_iff]; simp
        by_cases c2 : s.size = 0
        · rw [if_pos (e0.2 c2), if_neg (by omega)]
        · rw [if_neg (fun e => c2 (e0.1 e)), if_pos ⟨c, c2⟩]
      · rw [if_pos (by omega), if_neg (by omega)]
    · refine Ev.step (f := fun _ => some (out, decide (op.length = 0 ∧ s.size ≠ 0))) (fun k => ?_) (Ev.now _)
      simp only [pomaderef07_partners.l0]
      rw [if_neg (by omega)]
      by_cases c2 : s.size = 0
      · rw [if_neg (by omega), decide_eq_false (by omega)]
      · rw [if_pos (by omega)]
        by_cases c : op.length = 0
        · rw [decide_eq_true ⟨c, c2⟩, beq_iff_eq.2 (by omega : (op.length : Int) = 0)]
        · rw [decide_eq_false (by omega), beq_eq_false_iff_ne.2 (by omega : (op.length : Int) ≠ 0)]
  | succ d ih =>
    intro q out op hq hI
    have hol : op.length ≤ 2000 := by have := hI.cnt; have := opn_le s q; omega
    have hlen := hI.len
    simp only [partL]
    by_cases c1 : bt s (q : Int) = 40
    · rw [if_pos c1]
      have h := ih (q + 1) out (op ++ [(q : Int)]) (by omega) (hI.open_ c1)
      have e1 : ∀ k, plait_partners.l0 (k + 1) s out op (s.size : Int) (q : Int) = plait_partners.l0 k s out (op ++ [(q : Int)]) (s.size : Int) ((q + 1 : Nat) : Int) := fun k => by
        simp only [plait_partners.l0]
        rw [if_pos (by omega), if_pos (by omega), if_pos (by omega), if_pos c1, if_pos (by omega), pw64 (by omega) (by omega)]
        rfl
      have e2 : ∀ k, pomaderef07_partners.l0 (k + 1) s out op (q : Int) = pomaderef07_partners.l0 k s out (op ++ [(q : Int)]) ((q + 1 : Nat) : Int) := fun k => by
        simp only [pomaderef07_partners.l0]
        rw [if_pos (by omega), if_pos (by omega), if_pos c1, if_pos (by omega), pw64 (by omega) (by omega)]
        rfl
      split at h
      · exact ⟨Ev.step e1 h.1, Ev.step e2 h.2⟩
      · exact ⟨Ev.step e1 h.1, Ev.step e2 h.2.1, h.2.2⟩
    · rw [if_neg c1]
      by_cases c2 : bt s (q : Int) = 41
      · rw [if_pos c2]
        by_cases c3 : op.length = 0
        · rw [if_pos c3]
          refine ⟨Ev.step (f := fun _ => some ([], 5)) (fun k => ?_) (Ev.now _), Ev.step (f := fun _ => some ([], false)) (fun k => ?_) (Ev.now _)⟩
          · simp only [plait_partners.l0]
            rw [if_pos (by omega), if_pos (by omega), if_pos (by omega), if_neg c1, if_pos c2, if_neg (by omega)]
          · simp only [pomaderef07_partners.l0]
            rw [if_pos (by omega), if_pos (by omega), if_neg c1, if_pos c2, if_neg (by omega)]
        · rw [if_neg c3]
          have h := ih (q + 1) _ _ (by omega) (hI.shut (by omega) c2 c3)
          have hl := hI.fop _ (rd_last c3)
          have ew : wrap64 ((op.length : Int) - 1) = (op.length : Int) - 1 := pw64 (by omega) (by omega)
          have et : ((op.length : Int) - 1).toNat = op.length - 1 := by omega
          have e1 : ∀ k, plait_partners.l0 (k + 1) s out op (s.size : Int) (q : Int) = plait_partners.l0 k s ((out.set q (rd op ((op.length : Int) - 1))).set (rd op ((op.length : Int) - 1)).toNat (q : Int)) (op.take (op.length - 1)) (s.size : Int) ((q + 1 : Nat) : Int) := fun k => by
            simp only [plait_partners.l0]
            rw [if_pos (by omega), if_pos (by omega), if_pos (by omega), if_neg c1, if_pos c2, if_pos (by omega), ew, if_pos (by omega), if_pos (by omega), if_pos (by omega), if_pos (by omega), if_pos (by omega), if_pos (by omega), et, pw64 (by omega) (by omega)]
            rfl
          have e2 : ∀ k, pomaderef07_partners.l0 (k + 1) s out op (q : Int) = pomaderef07_partners.l0 k s ((out.set q (rd op ((op.length : Int) - 1))).set (rd op ((op.length : Int) - 1)).toNat (q : Int)) (op.take (op.length - 1)) ((q + 1 : Nat) : Int) := fun k => by
            simp only [pomaderef07_partners.l0]
            rw [if_pos (by omega), if_pos (by omega), if_neg c1, if_pos c2, if_pos (by omega), ew, if_pos (by omega), if_pos (by omega), if_pos (by omega), if_pos (by omega), if_pos (by omega), if_pos (by omega), et, pw64 (by omega) (by omega)]
            rfl
          split at h
          · exact ⟨Ev.step e1 h.1, Ev.step e2 h.2⟩
          · exact ⟨Ev.step e1 h.1, Ev.step e2 h.2.1, h.2.2⟩
      · rw [if_neg c2]
        refine ⟨Ev.step (f := fun _ => some ([], 5)) (fun k => ?_) (Ev.now _), Ev.step (f := fun _ => some ([], false)) (fun k => ?_) (Ev.now _)⟩
        · simp only [plait_partners.l0]
          rw [if_pos (by omega), if_pos (by omega), if_pos (by omega), if_neg c1, if_neg c2]
        · simp only [pomaderef07_partners.l0]
          rw [if_pos (by omega), if_pos (by omega), if_neg c1, if_neg c2]
/-- what is known of an arch system and its partners -/
structure Arch (s : ByteArray) (o : List Int) : Prop where
  len : o.length = s.size
  pos : s.size ≠ 0
  rng : ∀ x ∈ o, 0 ≤ x ∧ x < (s.size : Int)
  br : ∀ i : Nat, i < s.size → bt s (i : Int) = 40 ∨ bt s (i : Int) = 41
  dep : ∀ i : Nat, i ≤ s.size → i ≤ 2 * opn s i
  bal : s.size = 2 * opn s s.size
theorem inv_start (s : ByteArray) : Inv s 0 (List.replicate s.size 0) [] :=
  ⟨by simp, (fun x hx => by rw [List.mem_replicate] at hx; omega), (fun x hx => by cases hx), by simp [opn], (fun i hi => by omega), (fun i hi => by omega)⟩
/-- partners, by the program and by the specification -/
theorem partners_both (s : ByteArray) (hs : s.size ≤ 1000) : (∃ o, Arch s o ∧ Ev (fun k => plait_partners.f k s) (if s.size > 24 then ([], 3) else (o, 0)) ∧ Ev (fun k => pomaderef07_partners.f k s) (o, true)) ∨
    (∃ o, Ev (fun k => plait_partners.f k s) (if s.size > 24 then ([], 3) else ([], 5)) ∧ Ev (fun k => pomaderef07_partners.f k s) (o, false)) := by
  have h := part_loop s hs s.size 0 _ _ (by omega) (inv_start s)
  have e1 : ∀ r, Ev (fun k => plait_partners.l0 k s (List.replicate s.size 0) [] (s.size : Int) ((0 : Nat) : Int)) r → Ev (fun k => plait_partners.f k s) (if s.size > 24 then ([], 3) else r) := fun r hr => by
    by_cases c : s.size > 24
    · rw [if_pos c]; exact Ev.congr (fun k => by unfold plait_partners.f; rw [if_pos (by omega)]) (Ev.now _)
    · rw [if_neg c]
      exact Ev.congr (fun k => by unfold plait_partners.f; rw [if_neg (by omega), if_pos (by omega), if_pos (by omega)]; rfl) hr
  have e2 : ∀ r, Ev (fun k => pomaderef07_partners.l0 k s (List.replicate s.size 0) [] ((0 : Nat) : Int)) r → Ev (fun k => pomaderef07_partners.f k s) r := fun r hr =>
    Ev.congr (fun k => by unfold pomaderef07_partners.f; rw [if_pos (by omega), if_pos (by omega)]; rfl) hr
  split at h
  · exact .inr ⟨[], e1 _ h.1, e2 _ h.2⟩
  · rename_i r _
    obtain ⟨h1, h2, hI⟩ := h
    by_cases c : r.2.length = 0 ∧ s.size ≠ 0
    · rw [if_pos c] at h1
      rw [decide_eq_true c] at h2
      have hcnt := hI.cnt
      exact .inl ⟨r.1, ⟨hI.len, c.2, fun x hx => by have := hI.frng x hx; omega, hI.br, hI.dep, by omega⟩, e1 _ h1, e2 _ h2⟩
    · rw [if_neg c] at h1
      rw [decide_eq_false c] at h2
      exact .inr ⟨r.1, e1 _ h1, e2 _ h2⟩
/-! ### closed curves -/
theorem count_set (T : List Bool) (i : Nat) (hi : i < T.length) (h : T.getD i false = false) : (T.set i true).count false + 1 = T.count false := by
  induction T generalizing i with
  | nil => simp at hi
  | cons x xs ih =>
    cases i with
    | zero => simp at h; subst h; simp
    | succ i =>
      have := ih i (by simpa using hi) (by simpa using h)
      cases x <;> simp [List.count_cons] at this ⊢ <;> omega
theorem count_set_le (T : List Bool) (i : Nat) : (T.set i true).count false ≤ T.count false := by
  by_cases hi : i < T.length
  · cases h : T.getD i false with
    | false => have := count_set T i hi h; omega
    | true =>
      have e : T.set i true = T := by
        apply List.ext_getElem (by simp)
        intro j h1 h2
        by_cases e : i = j
        · subst e; simp [List.getD_eq_getElem?_getD, hi] at h; simp [h]
        · simp [List.getElem_set, e]
      rw [e]; exact Nat.le_refl _
  · rw [List.set_eq_of_length_le (by omega)]; exact Nat.le_refl _
theorem rd_rng {l : List Int} {n : Nat} (hl : l.length = n) (hr : ∀ x ∈ l, 0 ≤ x ∧ x < (n : Int)) (i : Int) (h0 : 0 ≤ i) (h1 : i < (n : Int)) : 0 ≤ rd l i ∧ rd l i < (n : Int) := by
  have h : i.toNat < l.length := by omega
  exact hr _ (by simp [rd, List.getD_eq_getElem?_getD, h])
end Go.Proofs.Ytjfkompfkgjdaaa.L
end
section
/- The product as the program makes it: all ways, the closed curves, and the whole. -/
namespace Go.Proofs.Ytjfkompfkgjdaaa.L
open Go.RowKit Go.Proofs.Ytjfkompfkgjdaaa.PC Go.Proofs.YtjfkompfkgjdaaaW.PrintWords Go.Proofs.YtjfkompfkgjdaaaW.PrintLast Go.Proofs.Ytjfkompfkgjdaaa.G
theorem rd_set (l : List Int) (i j : Nat) (v : Int) (h : i < l.length) : rd (l.set i v) (j : Int) = if j = i then v else rd l (j : Int) := by
  by_cases e : i = j
  · subst e; simp [rd, List.getD_eq_getElem?_getD, h]
  · rw [if_neg (Ne.symm e)]
    simp [rd, List.getD_eq_getElem?_getD, List.getElem?_set_ne e]
/-- the outer points below i, of both sides -/
def done (n i u : Nat) : Prop := ∃ j, j < i ∧ (u = emb n j ∨ u = emb n (n + j))
theorem W0.congr {σ τ : Nat → Nat} {mid P Q M : Nat → Prop} (h : W0 σ τ mid P M) (hq : ∀ u, Q u → P u) : W0 σ τ mid Q M :=
  ⟨fun u hu => h.cl u (hu.elim .inl (fun e => .inr ⟨e.1, hq u e.2⟩)), h.ct, h.low⟩
theorem ways_ok {n : Nat} {a b : List Int} (ha : LM n a) (hb : LM n b) (d : Nat) : ∀ (i : Nat) (out : List Int) (T : List Bool), i + d = n → out.length = 2 * n → T.length = n →
    (∀ j, j < i → rd out (j : Int) = (prod n (fn a) (fn b) j : Int) ∧ rd out ((n + j : Nat) : Int) = (prod n (fn a) (fn b) (n + j) : Int)) →
    W0 (sg n a b) (tau (mids n)) (pts (mids n)) (done n i) (MT n T) →
    ∃ T', plait_ways a b n d i out T = some (prodL n a b, T') ∧ T'.length = n ∧ W0 (sg n a b) (tau (mids n)) (pts (mids n)) (done n n) (MT n T') := by
  induction d with
  | zero =>
    intro i out T hi ho hT hr hW
    obtain rfl : i = n := by omega
    refine ⟨T, ?_, hT, hW⟩
    have e : out = prodL i a b := by
      refine list_eq (by rw [prodL_len, ho]) (fun z hz => ?_)
      rw [prodL_rd (by omega)]
      by_cases c : z < i
      · exact (hr z c).1
      · have := (hr (z - i) (by omega)).2
        rwa [show i + (z - i) = z by omega] at this
    rw [e]; rfl
  | succ d ih =>
    intro i out T hi ho hT hr hW
    have e1 : emb n i = i := by unfold emb; rw [if_pos (by omega)]
    have e2 : emb n (n + i) = 2 * n + (n + i) := by unfold emb; rw [if_neg (by omega)]; omega
    obtain ⟨T1, g1, l1, w1⟩ := way_start ha hb _ true i T (by omega) hT e1.symm hW
    obtain ⟨T2, g2, l2, w2⟩ := way_start ha hb _ false (n + i) T1 (by omega) l1 e2.symm w1
    obtain ⟨T', g3, l3, w3⟩ := ih (i + 1) ((out.set i (prod n (fn a) (fn b) i : Int)).set (n + i) (prod n (fn a) (fn b) (n + i) : Int)) T2 (by omega) (by simpa using ho) l2 (by
      intro j hj
      have lo : n + i < (out.set i (prod n (fn a) (fn b) i : Int)).length := by simp; omega
      rw [rd_set _ _ _ _ lo, rd_set _ _ _ _ (by omega), rd_set _ _ _ _ lo, rd_set _ _ _ _ (by omega)]
      by_cases c : j = i
      · subst c
        rw [if_neg (by omega), if_pos rfl, if_pos rfl]; exact ⟨rfl, rfl⟩
      · rw [if_neg (by omega), if_neg c, if_neg (by omega), if_neg (by omega)]
        exact hr j (by omega)) (W0.congr w2 (fun u ⟨j, hj, hu⟩ => by
          by_cases c : j = i
          · subst c
            rcases hu with hu | hu
            · exact .inl (.inr hu)
            · exact .inr hu
          · exact .inl (.inl ⟨j, by omega, hu⟩)))
    refine ⟨T', ?_, l3, w3⟩
    simp only [plait_ways]
    rw [g1, Option.bind_some, g2, Option.bind_some]
    exact g3
/-! ### the closed curves -/
/-- at which indices the walks stand: over the lower diagram first -/
abbrev fA (n : Nat) (a : List Int) (m : Nat) : Nat := fn a (n + m) - n
abbrev CL (n : Nat) (a b : List Int) : Nat → Prop := Cl n (fn a) (fn b)
def bM (T : List Bool) (m : Nat) : Prop := T.getD m false = true
theorem count_pos {T : List Bool} {i : Nat} (hi : i < T.length) (h : T.getD i false = false) : T.count false ≠ 0 := by
  have := count_set T i hi h; omega
theorem round_ok {n : Nat} {a b : List Int} (hn : n ≤ 1000) (ha : LM n a) (hb : LM n b) (T0 : List Bool) (i : Nat) (c : Nat) : ∀ (fuel at_ : Nat) (T : List Bool), c < fuel → T.count false ≤ c → T.length = n →
    (∀ m, m < n → ¬ CL n a b m → bM T m) → Rd (CL n a b) (fn b) (fA n a) (bM T0) (bM T) i at_ →
    ∃ T', plait_round a b n fuel (at_ : Int) T = some T' ∧ T'.length = n ∧ (∀ m, m < n → ¬ CL n a b m → bM T' m) ∧ ∀ m, CL n a b m → (bM T' m ↔ bM T0 m ∨ Conn (fn b) (fA n a) i m) := by
  obtain ⟨pa, pb⟩ := cl_pairs ha.mat hb.mat
  have hIx := cl_ixs ha.mat hb.mat
  induction c with
  | zero =>
    intro fuel at_ T hf hc hT hU hR
    obtain ⟨k, rfl⟩ : ∃ k, fuel = k + 1 := ⟨fuel - 1, by omega⟩
    have hat := hR.uc.1
    have ht : bM T at_ := by
      unfold bM
      cases e : T.getD at_ false with
      | true => rfl
      | false => exact absurd (Nat.le_zero.1 hc) (count_pos (by omega) e)
    refine ⟨T, ?_, hT, hU, hR.fin pb pa ht⟩
    simp only [plait_round]
    rw [if_pos (by omega), Int.toNat_natCast, if_pos (show T.getD at_ false = true from ht)]
  | succ c ih =>
    intro fuel at_ T hf hc hT hU hR
    obtain ⟨k, rfl⟩ : ∃ k, fuel = k + 1 := ⟨fuel - 1, by omega⟩
    have hat := hR.uc.1
    by_cases ht : bM T at_
    · refine ⟨T, ?_, hT, hU, hR.fin pb pa ht⟩
      simp only [plait_round]
      rw [if_pos (by omega), Int.toNat_natCast, if_pos (show T.getD at_ false = true from ht)]
    · have uB := pb.mem at_ hR.uc
      have hbl := uB.1
      have e := count_set T at_ (by omega) (by unfold bM at ht; simpa using ht)
      have e2 := count_set_le (T.set at_ true) (fn b at_)
      have hM : ∀ m, CL n a b m → (bM ((T.set at_ true).set (fn b at_) true) m ↔ bM T m ∨ m = at_ ∨ m = fn b at_) := by
        intro m _
        unfold bM
        rw [getD_set _ _ _ (by simp; omega), getD_set _ _ _ (by omega), or_assoc]
      obtain ⟨T', g1, g2, g3, g4⟩ := ih k (fA n a (fn b at_)) ((T.set at_ true).set (fn b at_) true) (by omega) (by omega) (by simpa using hT)
        (fun m hm h => by unfold bM; rw [getD_set _ _ _ (by simp; omega), getD_set _ _ _ (by omega)]; exact .inl (.inl (hU m hm h))) (hR.step pb pa ht hM)
      refine ⟨T', ?_, g2, g3, g4⟩
      simp only [plait_round]
      have s1 := (hIx.sA _ uB).2
      simp only [up] at s1
      rw [jn_lo (by omega)] at s1
      have e3 : rd a (rd b (at_ : Int) + (n : Int)) = ((n + fA n a (fn b at_) : Nat) : Int) := by
        rw [hb.nn at_ (by omega), show (fn b at_ : Int) + (n : Int) = ((n + fn b at_ : Nat) : Int) by omega, ha.nn _ (by omega), s1]
      have hlt : fA n a (fn b at_) < n := (pa.mem _ uB).1
      rw [if_pos (by omega), Int.toNat_natCast, if_neg (show ¬ T.getD at_ false = true from ht), e3, hb.nn at_ (by omega), if_pos (by omega), Int.toNat_natCast, show ((n + fA n a (fn b at_) : Nat) : Int) - (n : Int) = (fA n a (fn b at_) : Int) by omega, pw64 (by omega) (by omega)]
      exact g1
theorem loops_ok {n : Nat} {a b : List Int} (hn : n ≤ 1000) (ha : LM n a) (hb : LM n b) (d : Nat) : ∀ (i : Nat) (T : List Bool), i + d = n → T.length = n →
    (∀ m, m < n → ¬ CL n a b m → bM T m) → MetI (CL n a b) (fn b) (fA n a) i (bM T) →
    plait_loops a b n d i (cntP (Fst (CL n a b) (fn b) (fA n a)) i) T = some (cntP (Fst (CL n a b) (fn b) (fA n a)) n) := by
  obtain ⟨pa, pb⟩ := cl_pairs ha.mat hb.mat
  induction d with
  | zero => intro i T hi hT hU hM; obtain rfl : i = n := by omega
            rfl
  | succ d ih =>
    intro i T hi hT hU hM
    simp only [plait_loops]
    by_cases c : bM T i
    · obtain ⟨m1, m2⟩ := hM.skip (fun _ => c)
      rw [if_pos (show T.getD i false = true from c)]
      have := ih (i + 1) T (by omega) hT hU m1
      simp only [cntP] at this
      rwa [if_neg m2] at this
    · have ui : CL n a b i := Classical.byContradiction fun e => c (hU i (by omega) e)
      obtain ⟨ca, cb⟩ := hM.closed pb pa
      obtain ⟨T', g1, g2, g3, g4⟩ := round_ok hn ha hb T i n (n + 1) i T (by omega) (by rw [← hT]; exact List.count_le_length) hT hU (Rd.start pb pa ca cb ui c)
      obtain ⟨m1, m2⟩ := hM.round ui c g4
      rw [if_neg (show ¬ T.getD i false = true from c), g1, Option.bind_some]
      have := ih (i + 1) T' (by omega) g2 g3 m1
      simp only [cntP] at this
      rwa [if_pos m2] at this
theorem done_all {n : Nat} {a b : List Int} (ha : LM n a) (hb : LM n b) (u : Nat) (hu : ¬ pts (mids n) u) : done n n u ∨ sg n a b u = u := by
  by_cases c : u < 4 * n
  · refine .inl ?_
    have e := emb_une hu c
    by_cases d : une n u < n
    · exact ⟨une n u, d, .inl e.1.symm⟩
    · exact ⟨une n u - n, by omega, .inr (by rw [show n + (une n u - n) = une n u by omega]; exact e.1.symm)⟩
  · exact .inr (jn_off (by omega))
/-- the program's product is the gluing -/
theorem product_ok {n : Nat} {a b : List Int} (hn : n ≤ 500) (ha : LM n a) (hb : LM n b) : plait_diagram_product.f a b = some (prodL n a b, (lops n (fn a) (fn b) : Int)) := by
  have ho := mids_ok ha.mat hb.mat
  have la := ha.len
  have lb := hb.len
  have e : a.length / 2 = n := by omega
  have w0 : W0 (sg n a b) (tau (mids n)) (pts (mids n)) (done n 0) (MT n (List.replicate n false)) := by
    have no : ∀ u, ¬ MT n (List.replicate n false) u := fun u h => by
      unfold MT at h
      rw [List.getD_eq_getElem?_getD, List.getElem?_replicate] at h
      split at h <;> simp at h
    exact ⟨fun u hu => hu.elim (fun h => absurd h.2 (no u)) (fun h => by obtain ⟨j, hj, _⟩ := h.2; omega), fun u _ h => absurd h (no u), fun u _ h => absurd h (no u)⟩
  obtain ⟨T, g1, g2, g3⟩ := ways_ok ha hb n 0 (List.replicate (2 * n) 0) (List.replicate n false) (by omega) (by simp) (by simp) (fun j hj => by omega) w0
  have all := g3.all (fun u hu => (tau_out ho).2 hu) (done_all ha hb)
  have hT : ∀ m, m < n → (bM T m ↔ ¬ CL n a b m) := by
    intro m hm
    rw [← met_cl ha.mat hb.mat hm, ← all (n + m) (mids_pts.2 (by omega))]
    unfold MT bM
    rw [Nat.add_mod_left, Nat.mod_eq_of_lt hm]
  have g4 := loops_ok (by omega) ha hb n 0 T (by omega) g2 (fun m hm h => (hT m hm).2 h) (fun m um => ⟨fun t => absurd um ((hT m um.1).1 t), fun ⟨j, hj, _⟩ => by omega⟩)
  unfold plait_diagram_product.f
  rw [if_pos (by omega), e, la, g1, Option.bind_some]
  simp only [cntP] at g4
  rw [g4, Option.bind_some, lops_fst ha.mat hb.mat, cntP_congr n (fun i _ => fst_swap)]
end Go.Proofs.Ytjfkompfkgjdaaa.L
end
section
/- The pile of open points, and pairings without crossings: plain. -/
namespace Go.Proofs.Ytjfkompfkgjdaaa.G
/-! ### the pile of open points -/
def run (D : Nat → Nat) : Nat → Nat → List Nat → List Nat
  | 0, _, st => st
  | d + 1, x, [] => run D d (x + 1) [x]
  | d + 1, x, y :: st => if y = D x then run D d (x + 1) st else run D d (x + 1) (x :: y :: st)
/-- a pairing of the points below N -/
def PairN (N : Nat) (D : Nat → Nat) : Prop := ∀ x, x < N → D x < N ∧ D x ≠ x ∧ D (D x) = x
def NCD (N : Nat) (D : Nat → Nat) : Prop := ∀ a c, a < N → c < N → ¬ (a < c ∧ c < D a ∧ D a < D c)
/-- falling, below x -/
def Fall : Nat → List Nat → Prop
  | _, [] => True
  | x, y :: st => y < x ∧ Fall y st
theorem Fall.lt {x : Nat} {st : List Nat} (h : Fall x st) : ∀ z, z ∈ st → z < x := by
  induction st generalizing x with
  | nil => intro z hz; cases hz
  | cons y st ih =>
    intro z hz
    rcases List.mem_cons.1 hz with rfl | hz
    · exact h.1
    · have := ih h.2 z hz; have := h.1; omega
theorem Fall.mono {x y : Nat} {st : List Nat} (h : Fall x st) (hxy : x ≤ y) : Fall y st := by
  cases st with
  | nil => trivial
  | cons z st => exact ⟨by have := h.1; omega, h.2⟩
theorem run_back {N : Nat} {D : Nat → Nat} (hD : PairN N D) (d : Nat) : ∀ (x : Nat) (st : List Nat), x + d = N → Fall x st → run D d x st = [] →
    (∀ z, z ∈ st → x ≤ D z) ∧ ∀ a c, a < N → c < N → (a ∈ st ∨ x ≤ a) → (c ∈ st ∨ x ≤ c) → x ≤ D a → ¬ (a < c ∧ c < D a ∧ D a < D c) := by
  induction d with
  | zero =>
    intro x st hx _ h
    simp only [run] at h
    subst h
    refine ⟨fun z hz => (by cases hz), fun a c ha _ _ _ h => ?_⟩
    have := (hD a ha).1
    omega
  | succ d ih =>
    intro x st hx hf h
    have hxN : x < N := by omega
    have push : run D d (x + 1) (x :: st) = [] → (∀ z, z ∈ st → x ≤ D z) ∧ ∀ a c, a < N → c < N → (a ∈ st ∨ x ≤ a) → (c ∈ st ∨ x ≤ c) → x ≤ D a → ¬ (a < c ∧ c < D a ∧ D a < D c) := by
      intro h
      obtain ⟨h1, h2⟩ := ih (x + 1) (x :: st) (by omega) ⟨by omega, hf⟩ h
      have hx1 := h1 x List.mem_cons_self
      refine ⟨fun z hz => by have := h1 z (List.mem_cons_of_mem _ hz); omega, fun a c ha hc ma mc hda hcr => ?_⟩
      have e : D a ≠ x := fun e => by
        have := (hD a ha).2.2; rw [e] at this; omega
      refine h2 a c ha hc ?_ ?_ (by omega) hcr
      · rcases ma with ma | ma
        · exact .inl (List.mem_cons_of_mem _ ma)
        · by_cases q : a = x
          · exact .inl (q ▸ List.mem_cons_self)
          · exact .inr (by omega)
      · rcases mc with ma | ma
        · exact .inl (List.mem_cons_of_mem _ ma)
        · by_cases q : c = x
          · exact .inl (q ▸ List.mem_cons_self)
          · exact .inr (by omega)
    cases st with
    | nil => exact push h
    | cons y st =>
      simp only [run] at h
      by_cases c : y = D x
      · rw [if_pos c] at h
        have yx : y < x := hf.1
        obtain ⟨h1, h2⟩ := ih (x + 1) st (by omega) (hf.2.mono (by omega)) h
        have dy : D y = x := by rw [c, (hD x hxN).2.2]
        refine ⟨fun z hz => ?_, fun a b ha hb ma mb hda hcr => ?_⟩
        · rcases List.mem_cons.1 hz with rfl | hz
          · omega
          · have := h1 z hz; omega
        · have e : D a ≠ x := fun e => by
            have e2 := (hD a ha).2.2
            rw [e, ← c] at e2
            subst e2
            rcases mb with mb | mb
            · rcases List.mem_cons.1 mb with rfl | mb
              · omega
              · have := hf.2.lt b mb; omega
            · omega
          have mem : ∀ u, (u ∈ y :: st ∨ x ≤ u) → x + 1 ≤ D u → u ∈ st ∨ x + 1 ≤ u := by
            intro u mu hu
            rcases mu with mu | mu
            · rcases List.mem_cons.1 mu with rfl | mu
              · omega
              · exact .inl mu
            · by_cases q : u = x
              · subst q; omega
              · exact .inr (by omega)
          exact h2 a b ha hb (mem a ma (by omega)) (mem b mb (by omega)) (by omega) hcr
      · rw [if_neg c] at h
        exact push h
/-- the pile of a pairing without crossings: those that are still open -/
def Stay (N : Nat) (D : Nat → Nat) (x : Nat) (st : List Nat) : Prop := Fall x st ∧ ∀ z, z ∈ st ↔ z < x ∧ x ≤ D z
theorem open_step {N : Nat} {D : Nat → Nat} (hD : PairN N D) (hn : NCD N D) {x : Nat} (hx : x < N) {st : List Nat} (h : Stay N D x st) :
    (D x < x ∧ ∃ st', st = D x :: st' ∧ Stay N D (x + 1) st') ∨ (x < D x ∧ (∀ y st', st = y :: st' → y ≠ D x) ∧ Stay N D (x + 1) (x :: st)) := by
  obtain ⟨h1, h2, h3⟩ := hD x hx
  by_cases c : D x < x
  · refine .inl ⟨c, ?_⟩
    have m : D x ∈ st := (h.2 _).2 ⟨c, by omega⟩
    cases st with
    | nil => cases m
    | cons y st =>
      have hy := (h.2 y).1 List.mem_cons_self
      have e : y = D x := by
        refine Classical.byContradiction fun ne => ?_
        rcases List.mem_cons.1 m with q | q
        · exact ne q.symm
        · have l := h.1.2.lt _ q
          have hyN : y < N := by omega
          have : D y ≠ x := fun e => by have := (hD y hyN).2.2; rw [e] at this; exact ne this.symm
          exact hn (D x) y h1 hyN ⟨l, by omega, by omega⟩
      subst e
      refine ⟨st, rfl, h.1.2.mono (by omega), fun z => ⟨fun hz => ?_, fun hz => ?_⟩⟩
      · have l := h.1.2.lt z hz
        have := (h.2 z).1 (List.mem_cons_of_mem _ hz)
        have ne : D z ≠ x := fun e => by have := (hD z (by omega)).2.2; rw [e] at this; omega
        omega
      · have ne : z ≠ x := fun e => by subst e; omega
        rcases List.mem_cons.1 ((h.2 z).2 ⟨by omega, by omega⟩) with q | q
        · subst q; omega
        · exact q
  · refine .inr ⟨by omega, fun y st' e q => ?_, ⟨by omega, h.1⟩, fun z => ⟨fun hz => ?_, fun hz => ?_⟩⟩
    · have := (h.2 y).1 (by rw [e]; exact List.mem_cons_self); omega
    · rcases List.mem_cons.1 hz with rfl | hz
      · omega
      · have := (h.2 z).1 hz
        have ne : D z ≠ x := fun e => by have := (hD z (by omega)).2.2; rw [e] at this; omega
        omega
    · by_cases e : z = x
      · rw [e]; exact List.mem_cons_self
      · exact List.mem_cons_of_mem _ ((h.2 z).2 ⟨by omega, by omega⟩)
theorem open_run {N : Nat} {D : Nat → Nat} (hD : PairN N D) (hn : NCD N D) (d : Nat) : ∀ (x : Nat) (st : List Nat), x + d = N → Stay N D x st → run D d x st = [] := by
  induction d with
  | zero =>
    intro x st hx h
    obtain rfl : x = N := by omega
    simp only [run]
    cases st with
    | nil => rfl
    | cons y st =>
      have := (h.2 y).1 List.mem_cons_self
      have := (hD y (by omega)).1
      omega
  | succ d ih =>
    intro x st hx h
    rcases open_step hD hn (by omega : x < N) h with ⟨_, st', rfl, g⟩ | ⟨_, g1, g⟩
    · simp only [run]
      rw [if_pos trivial]
      exact ih (x + 1) st' (by omega) g
    · cases st with
      | nil => exact ih (x + 1) _ (by omega) g
      | cons y st =>
        simp only [run]
        rw [if_neg (g1 y st rfl)]
        exact ih (x + 1) _ (by omega) g
theorem run_iff {N : Nat} {D : Nat → Nat} (hD : PairN N D) : run D N 0 [] = [] ↔ NCD N D := by
  constructor
  · intro h a c ha hc
    exact (run_back hD N 0 [] (by omega) trivial h).2 a c ha hc (.inr (by omega)) (.inr (by omega)) (by omega)
  · intro h
    exact open_run hD h N 0 [] (by omega) ⟨trivial, fun z => ⟨fun hz => (by cases hz), fun hz => by omega⟩⟩
end Go.Proofs.Ytjfkompfkgjdaaa.G
end
section
/- What a diagram is, by the program (a pile along the border) and by the specification (no two pairs cross). -/
namespace Go.Proofs.Ytjfkompfkgjdaaa.L
open Go.RowKit Go.Proofs.Ytjfkompfkgjdaaa.PC Go.Proofs.YtjfkompfkgjdaaaW.PrintWords Go.Proofs.YtjfkompfkgjdaaaW.PrintLast Go.Proofs.Ytjfkompfkgjdaaa.G
/-- where a point lies along the border; and which point lies there -/
def bo (n i : Nat) : Nat := if i < n then i else 3 * n - 1 - i
theorem bo_lt {n i : Nat} (h : i < 2 * n) : bo n i < 2 * n := by unfold bo; split <;> omega
theorem bo_bo {n i : Nat} (h : i < 2 * n) : bo n (bo n i) = i := by
  unfold bo
  by_cases c : i < n
  · rw [if_pos c, if_pos c]
  · rw [if_neg c, if_neg (by omega)]; omega
theorem bo_inj {n i j : Nat} (hi : i < 2 * n) (hj : j < 2 * n) (h : bo n i = bo n j) : i = j := by rw [← bo_bo hi, h, bo_bo hj]
def bl (n : Nat) : List Int := (List.range (2 * n)).map (fun i => (bo n i : Int))
theorem bl_rd {n z : Nat} (h : z < 2 * n) : rd (bl n) (z : Int) = (bo n z : Int) := rd_range _ _ _ h
theorem bl_len (n : Nat) : (bl n).length = 2 * n := by simp [bl]
theorem border_l1 {n : Nat} (hn : n ≤ 1000) (d : Nat) : ∀ j, j + d = n → Ev (fun k => plait_border.l1 k (n : Int) ((List.range (n + j)).map (fun i => (bo n i : Int))) (n : Int) (j : Int)) (bl n) := by
  induction d with
  | zero =>
    intro j hj
    obtain rfl : j = n := by omega
    refine Ev.step (f := fun _ => some (bl j)) (fun k => ?_) (Ev.now _)
    simp only [plait_border.l1]
    rw [if_neg (by omega), show j + j = 2 * j by omega]; rfl
  | succ d ih =>
    intro j hj
    refine Ev.step (fun k => ?_) (ih (j + 1) (by omega))
    simp only [plait_border.l1]
    rw [if_pos (by omega), if_pos (by simp; omega), pw64 (x := 2 * (n : Int)) (by omega) (by omega), pw64 (x := 2 * (n : Int) - 1) (by omega) (by omega), pw64 (x := 2 * (n : Int) - 1 - (j : Int)) (by omega) (by omega), pw64 (by omega) (by omega)]
    rw [show n + (j + 1) = (n + j) + 1 by omega, List.range_succ, List.map_append]
    have e : ((bo n (n + j) : Nat) : Int) = 2 * (n : Int) - 1 - (j : Int) := by unfold bo; rw [if_neg (by omega)]; omega
    simp only [List.map_cons, List.map_nil, e]
    rfl
theorem border_l0 {n : Nat} (hn : n ≤ 1000) (d : Nat) : ∀ j, j + d = n → Ev (fun k => plait_border.l0 k (n : Int) ((List.range j).map (fun i => (bo n i : Int))) (n : Int) (j : Int)) (bl n) := by
  induction d with
  | zero =>
    intro j hj
    obtain rfl : j = n := by omega
    refine Ev.step (fun k => ?_) (border_l1 hn j 0 (by omega))
    simp only [plait_border.l0]
    rw [if_neg (by omega)]; rfl
  | succ d ih =>
    intro j hj
    refine Ev.step (fun k => ?_) (ih (j + 1) (by omega))
    simp only [plait_border.l0]
    rw [if_pos (by omega), if_pos (by simp; omega), pw64 (by omega) (by omega), List.range_succ, List.map_append]
    have e : ((bo n j : Nat) : Int) = (j : Int) := by unfold bo; rw [if_pos (by omega)]
    simp only [List.map_cons, List.map_nil, e]
    rfl
theorem border_ev {n : Nat} (hn : n ≤ 1000) : Ev (fun k => plait_border.f k (n : Int)) (bl n) := Ev.congr (fun k => rfl) (border_l0 hn n 0 (by omega))
theorem refborder {n i : Nat} (hn : n ≤ 1000) (hi : i < 2 * n) : pomaderef07_border.f (n : Int) (i : Int) = some (bo n i : Int) := by
  unfold pomaderef07_border.f bo
  by_cases c : i < n
  · rw [if_pos (by omega), if_pos c]
  · rw [if_neg (by omega), if_neg c, pw64 (x := 3 * (n : Int)) (by omega) (by omega), pw64 (x := 3 * (n : Int) - 1) (by omega) (by omega), pw64 (by omega) (by omega)]
    congr 1; omega
/-- the point has no right partner -/
def bad (l : List Int) (p : Nat) : Prop := rd l (p : Int) < 0 ∨ rd l (p : Int) ≥ (l.length : Int) ∨ rd l (p : Int) = (p : Int) ∨ rd l (rd l (p : Int)) ≠ (p : Int)
theorem lm_of {n : Nat} {l : List Int} (hl : l.length = 2 * n) (h : ∀ p, p < 2 * n → ¬ bad l p) : LM n l := by
  have h1 : ∀ p, p < 2 * n → rd l (p : Int) = (fn l p : Int) ∧ fn l p < 2 * n := by
    intro p hp
    have := h p hp
    unfold bad at this
    unfold fn
    omega
  refine ⟨hl, fun z hz => (h1 z hz).1, fun z hz => ⟨(h1 z hz).2, fun e => ?_, ?_⟩⟩
  · refine h z hz (.inr (.inr (.inl ?_)))
    rw [(h1 z hz).1, e]
  · refine Classical.byContradiction fun e => h z hz (.inr (.inr (.inr ?_)))
    rw [(h1 z hz).1, (h1 _ (h1 z hz).2).1]
    omega
theorem LM.good {n : Nat} {l : List Int} (h : LM n l) {p : Nat} (hp : p < 2 * n) : ¬ bad l p := by
  have h1 := h.nn p hp
  have h2 := h.mat p hp
  have h3 := h.nn _ h2.1
  have hl := h.len
  unfold bad
  rw [h1, h3, h2.2.2]
  omega
instance (l : List Int) (p : Nat) : Decidable (bad l p) := by unfold bad; infer_instance
theorem arch_l0 {n : Nat} {l : List Int} (hn : n ≤ 1000) (hl : l.length = 2 * n) (x : Nat) (hx : x < 2 * n) (st out : List Int) (k : Nat) :
    plait_diagram_arches.l0 (k + 1) l st out (bl n) ((2 * n : Nat) : Int) (x : Int) = plait_diagram_arches.j2 k l st out (bo n x : Int) (rd l (bo n x : Int)) (bl n) ((2 * n : Nat) : Int) (x : Int) (decide (bad l (bo n x))) := by
  have hb := bo_lt hx
  have hbl := bl_len n
  simp only [plait_diagram_arches.l0]
  rw [if_pos (by omega), if_pos (by omega), if_pos (by omega), bl_rd hx, if_pos (by omega), if_pos (by omega)]
  by_cases c1 : rd l (bo n x : Int) < 0
  · rw [if_pos c1, decide_eq_true (.inl c1)]
  · rw [if_neg c1]
    by_cases c2 : rd l (bo n x : Int) ≥ (l.length : Int)
    · rw [if_pos c2, decide_eq_true (.inr (.inl c2))]
    · rw [if_neg c2]
      by_cases c3 : rd l (bo n x : Int) = (bo n x : Int)
      · rw [if_pos c3, decide_eq_true (.inr (.inr (.inl c3)))]
      · rw [if_neg c3, if_pos (by omega), if_pos (by omega)]
        congr 1
        by_cases c4 : rd l (rd l (bo n x : Int)) = (bo n x : Int)
        · rw [c4, decide_eq_false (by unfold bad; omega)]; exact bne_self_eq_false ..
        · rw [decide_eq_true (.inr (.inr (.inr c4)))]; exact bne_iff_ne.2 c4
/-- a point without a right partner: none -/
theorem arch_bad {n : Nat} {l : List Int} (hn : n ≤ 1000) (hl : l.length = 2 * n) (d : Nat) : ∀ (x : Nat) (st out : List Int), x + d = 2 * n → st.length ≤ x → out.length ≤ x → (∃ y, x ≤ y ∧ y < 2 * n ∧ bad l (bo n y)) →
    Ev (fun k => plait_diagram_arches.l0 k l st out (bl n) ((2 * n : Nat) : Int) (x : Int)) ((⟨#[]⟩ : ByteArray), false) := by
  induction d with
  | zero => intro x st out hx _ _ ⟨y, a, b, _⟩; omega
  | succ d ih =>
    intro x st out hx hs ho hy
    refine Ev.step (fun k => arch_l0 hn hl x (by omega) st out k) ?_
    by_cases c : bad l (bo n x)
    · refine Ev.step (f := fun _ => some ((⟨#[]⟩ : ByteArray), false)) (fun k => ?_) (Ev.now _)
      rw [decide_eq_true c]
      simp only [plait_diagram_arches.j2]
      rw [if_pos trivial]
    · have hy' : ∃ y, x + 1 ≤ y ∧ y < 2 * n ∧ bad l (bo n y) := by
        obtain ⟨y, a, b, e⟩ := hy
        have : y ≠ x := fun q => c (q ▸ e)
        exact ⟨y, by omega, b, e⟩
      have e1 : wrap64 ((x : Int) + 1) = ((x + 1 : Nat) : Int) := by rw [pw64 (by omega) (by omega)]; rfl
      rw [decide_eq_false c]
      by_cases c1 : (st.length : Int) > 0
      · have ew : wrap64 ((st.length : Int) - 1) = (st.length : Int) - 1 := pw64 (by omega) (by omega)
        by_cases c2 : rd st ((st.length : Int) - 1) = rd l (bo n x : Int)
        · refine Ev.step (fun k => ?_) (ih (x + 1) (st.take ((st.length : Int) - 1).toNat) (out ++ [41]) (by omega) (by rw [List.length_take]; omega) (by simp; omega) hy')
          simp only [plait_diagram_arches.j2]
          rw [if_neg (by decide), if_pos c1, ew, if_pos (by omega), if_pos (by omega), if_pos c2, if_pos (by omega), if_pos (by omega), e1]
        · refine Ev.step (fun k => ?_) (ih (x + 1) (st ++ [(bo n x : Int)]) (out ++ [40]) (by omega) (by simp; omega) (by simp; omega) hy')
          simp only [plait_diagram_arches.j2]
          rw [if_neg (by decide), if_pos c1, ew, if_pos (by omega), if_pos (by omega), if_neg c2, if_pos (by omega), if_pos (by omega), e1]
      · refine Ev.step (fun k => ?_) (ih (x + 1) (st ++ [(bo n x : Int)]) (out ++ [40]) (by omega) (by simp; omega) (by simp; omega) hy')
        simp only [plait_diagram_arches.j2]
        rw [if_neg (by decide), if_neg c1, if_pos (by omega), if_pos (by omega), e1]
/-- the partner along the border -/
def Db (n : Nat) (l : List Int) (x : Nat) : Nat := bo n (fn l (bo n x))
theorem db_pair {n : Nat} {l : List Int} (h : LM n l) : PairN (2 * n) (Db n l) := by
  intro x hx
  have h1 := bo_lt hx
  have h2 := h.mat _ h1
  refine ⟨bo_lt h2.1, fun e => ?_, ?_⟩
  · have := congrArg (bo n) e
    unfold Db at this
    rw [bo_bo h2.1] at this
    exact h2.2.1 this
  · unfold Db
    rw [bo_bo h2.1, h2.2.2, bo_bo hx]
/-- the brackets that the pile gives -/
def rout (D : Nat → Nat) : Nat → Nat → List Nat → List Int
  | 0, _, _ => []
  | d + 1, x, [] => 40 :: rout D d (x + 1) [x]
  | d + 1, x, y :: st => if y = D x then 41 :: rout D d (x + 1) st else 40 :: rout D d (x + 1) (x :: y :: st)
def pile (n : Nat) (st : List Nat) : List Int := (st.map (fun y => (bo n y : Int))).reverse
theorem pile_cons (n y : Nat) (st : List Nat) : pile n (y :: st) = pile n st ++ [(bo n y : Int)] := by simp [pile]
theorem pile_len (n : Nat) (st : List Nat) : (pile n st).length = st.length := by simp [pile]
theorem pile_top (n y : Nat) (st : List Nat) : rd (pile n (y :: st)) (((pile n (y :: st)).length : Int) - 1) = (bo n y : Int) := by
  have e : (((pile n (y :: st)).length : Int) - 1).toNat = (pile n st).length := by rw [pile_len, pile_len]; simp
  unfold rd
  rw [e, pile_cons]
  simp [List.getD_eq_getElem?_getD]
theorem pile_pop (n y : Nat) (st : List Nat) : (pile n (y :: st)).take (((pile n (y :: st)).length : Int) - 1).toNat = pile n st := by
  have e : (((pile n (y :: st)).length : Int) - 1).toNat = (pile n st).length := by rw [pile_len, pile_len]; simp
  rw [e, pile_cons]
  simp
theorem arch_run {n : Nat} {l : List Int} (hn : n ≤ 1000) (h : LM n l) (d : Nat) : ∀ (x : Nat) (st : List Nat) (out : List Int), x + d = 2 * n → (∀ y, y ∈ st → y < 2 * n) → st.length ≤ x → out.length ≤ x →
    Ev (fun k => plait_diagram_arches.l0 k l (pile n st) out (bl n) ((2 * n : Nat) : Int) (x : Int)) (strOfNums (out ++ rout (Db n l) d x st), (run (Db n l) d x st).isEmpty) := by
  have hl := h.len
  induction d with
  | zero =>
    intro x st out hx hst hs ho
    refine Ev.step (f := fun _ => some (strOfNums (out ++ []), st.isEmpty)) (fun k => ?_) (Ev.now _)
    simp only [plait_diagram_arches.l0]
    rw [if_neg (by omega), List.append_nil, pile_len]
    cases st with
    | nil => rfl
    | cons y st => rfl
  | succ d ih =>
    intro x st out hx hst hs ho
    have hxl : x < 2 * n := by omega
    have hb := bo_lt hxl
    refine Ev.step (fun k => arch_l0 hn hl x hxl _ out k) ?_
    rw [decide_eq_false (h.good hb)]
    have e1 : wrap64 ((x : Int) + 1) = ((x + 1 : Nat) : Int) := by rw [pw64 (by omega) (by omega)]; rfl
    have q := h.nn _ hb
    cases st with
    | nil =>
      have g := ih (x + 1) [x] (out ++ [40]) (by omega) (fun y hy => by simp at hy; omega) (by simp) (by simp; omega)
      rw [pile_cons] at g
      simp only [run, rout]
      rw [List.append_assoc] at g
      refine Ev.step (fun k => ?_) g
      simp only [plait_diagram_arches.j2]
      have e0 : (pile n []).length = 0 := rfl
      rw [if_neg (by decide), if_neg (by omega), if_pos (by omega), if_pos (by omega), e1]
    | cons y st =>
      have hy := hst y List.mem_cons_self
      have pl := pile_len n (y :: st)
      have sl : (y :: st).length = st.length + 1 := rfl
      have ew : wrap64 (((pile n (y :: st)).length : Int) - 1) = ((pile n (y :: st)).length : Int) - 1 := pw64 (by omega) (by omega)
      have hD : y = Db n l x ↔ rd (pile n (y :: st)) (((pile n (y :: st)).length : Int) - 1) = rd l (bo n x : Int) := by
        rw [pile_top, q]
        unfold Db
        constructor
        · intro e; rw [e, bo_bo (h.mat _ hb).1]
        · intro e
          have : bo n y = fn l (bo n x) := by omega
          rw [← this, bo_bo hy]
      by_cases c : y = Db n l x
      · have g := ih (x + 1) st (out ++ [41]) (by omega) (fun z hz => hst z (List.mem_cons_of_mem _ hz)) (by omega) (by simp; omega)
        simp only [run, rout]
        rw [if_pos c, if_pos c]
        rw [List.append_assoc] at g
        refine Ev.step (fun k => ?_) g
        simp only [plait_diagram_arches.j2]
        rw [if_neg (by decide), if_pos (by omega), ew, if_pos (by omega), if_pos (by omega), if_pos (hD.1 c), if_pos (by omega), if_pos (by omega), e1, pile_pop]
      · have g := ih (x + 1) (x :: y :: st) (out ++ [40]) (by omega) (fun z hz => by
          rcases List.mem_cons.1 hz with rfl | hz
          · exact hxl
          · exact hst z hz) (by simp at hs ⊢; omega) (by simp; omega)
        simp only [run, rout]
        rw [if_neg c, if_neg c]
        rw [pile_cons, List.append_assoc] at g
        refine Ev.step (fun k => ?_) g
        simp only [plait_diagram_arches.j2]
        rw [if_neg (by decide), if_pos (by omega), ew, if_pos (by omega), if_pos (by omega), if_neg (fun e => c (hD.2 e)), if_pos (by omega), if_pos (by omega), e1]
/-- a diagram -/
structure Dia (n : Nat) (l : List Int) : Prop where
  pos : 0 < n
  lim : n ≤ 10
  lm : LM n l
  nc : NCD (2 * n) (Db n l)
/-- its brackets -/
def brk (n : Nat) (l : List Int) : List Int := (List.range (2 * n)).map (fun x => if Db n l x < x then 41 else 40)
theorem rout_nc {N : Nat} {D : Nat → Nat} (hD : PairN N D) (hn : NCD N D) (d : Nat) : ∀ (x : Nat) (st : List Nat), x + d = N → Stay N D x st → (List.range x).map (fun y => if D y < y then (41 : Int) else 40) ++ rout D d x st = (List.range N).map (fun y => if D y < y then (41 : Int) else 40) := by
  induction d with
  | zero => intro x st hx _; obtain rfl : x = N := by omega
            simp [rout]
  | succ d ih =>
    intro x st hx h
    rcases open_step hD hn (by omega : x < N) h with ⟨c, st', rfl, g⟩ | ⟨c, g1, g⟩
    · rw [← ih (x + 1) st' (by omega) g, List.range_succ, List.map_append]
      simp [rout, c]
    · rw [← ih (x + 1) _ (by omega) g, List.range_succ, List.map_append]
      have c' : ¬ D x < x := by omega
      cases st with
      | nil => simp [rout, c']
      | cons y st => simp [rout, c', g1 y st rfl]
theorem arches_start {n : Nat} {l : List Int} (hn : n ≤ 1000) (hp : 0 < n) (hl : l.length = 2 * n) {r : ByteArray × Bool} (h : Ev (fun k => plait_diagram_arches.l0 k l [] [] (bl n) ((2 * n : Nat) : Int) ((0 : Nat) : Int)) r) : Ev (fun k => plait_diagram_arches.f k l) r := by
  have e : wrap64 ((l.length : Int) / 2) = (n : Int) := by rw [pw64 (by omega) (by omega)]; omega
  refine Ev.congr (f := fun k => plait_diagram_arches.j0 k l false) (fun k => ?_) ?_
  · unfold plait_diagram_arches.f
    rw [if_neg (by omega)]
    congr 1
    have : (l.length : Int) % 2 = 0 := by omega
    rw [this]; rfl
  · refine Ev.step (f := fun k => (plait_border.f k (n : Int)).bind fun t108 => plait_diagram_arches.l0 k l ([] : List Int) ([] : List Int) t108 (t108.length : Int) 0) (fun k => ?_) ?_
    · simp only [plait_diagram_arches.j0]
      rw [if_neg (by decide)]
      unfold plait_diagram_size.f
      rw [Option.bind_some, e]
    · refine Ev.bind (border_ev hn) ?_
      rw [bl_len]
      exact h
theorem arches_odd {l : List Int} (hl : l.length % 2 = 1 ∨ l.length = 0) : Ev (fun k => plait_diagram_arches.f k l) ((⟨#[]⟩ : ByteArray), false) := by
  refine Ev.congr (f := fun k => plait_diagram_arches.j0 k l true) (fun k => ?_) (Ev.step (f := fun _ => some ((⟨#[]⟩ : ByteArray), false)) (fun k => ?_) (Ev.now _))
  · unfold plait_diagram_arches.f
    by_cases c : l.length = 0
    · rw [if_pos (by omega)]
    · rw [if_neg (by omega)]
      congr 1
      have : (l.length : Int) % 2 = 1 := by omega
      rw [this]; rfl
  · simp only [plait_diagram_arches.j0]
    rw [if_pos trivial]
/-! ### by the specification -/
def Crs (n : Nat) (l : List Int) (i k : Nat) : Prop := bo n i < bo n k ∧ bo n k < bo n (fn l i) ∧ bo n (fn l i) < bo n (fn l k)
theorem crs_nc {n : Nat} {l : List Int} : NCD (2 * n) (Db n l) ↔ ∀ i k, i < 2 * n → k < 2 * n → ¬ Crs n l i k := by
  constructor
  · intro h i k hi hk c
    have := h (bo n i) (bo n k) (bo_lt hi) (bo_lt hk)
    unfold Db at this
    rw [bo_bo hi, bo_bo hk] at this
    exact this c
  · intro h a c ha hc
    have := h (bo n a) (bo n c) (bo_lt ha) (bo_lt hc)
    unfold Crs at this
    rw [bo_bo ha, bo_bo hc] at this
    exact this
instance (n : Nat) (l : List Int) (i k : Nat) : Decidable (Crs n l i k) := by unfold Crs; infer_instance
theorem dia_l2 {n : Nat} {l : List Int} (hn : n ≤ 1000) (h : LM n l) (i x : Nat) (hi : i < 2 * n) (hx : x < 2 * n) (k : Nat) : pomaderef07_Diagram.l2 (k + 1) l (n : Int) (i : Int) (x : Int) = if Crs n l i x then some 2 else pomaderef07_Diagram.l2 k l (n : Int) (i : Int) ((x + 1 : Nat) : Int) := by
  have hl := h.len
  have e1 : wrap64 ((x : Int) + 1) = ((x + 1 : Nat) : Int) := by rw [pw64 (by omega) (by omega)]; rfl
  simp only [pomaderef07_Diagram.l2]
  rw [if_pos (by omega), refborder hn hi, Option.bind_some, if_pos (by omega), if_pos (by omega), h.nn i hi, refborder hn (h.mat i hi).1, Option.bind_some, refborder hn hx, Option.bind_some, if_pos (by omega), h.nn x hx, refborder hn (h.mat x hx).1, Option.bind_some, e1]
  by_cases c1 : bo n i < bo n x
  · rw [if_pos (by omega)]
    by_cases c2 : bo n x < bo n (fn l i)
    · rw [if_pos (by omega)]
      by_cases c3 : bo n (fn l i) < bo n (fn l x)
      · rw [if_pos (by omega), if_pos (show Crs n l i x from ⟨c1, c2, c3⟩)]
      · rw [if_neg (by omega), if_neg (fun c : Crs n l i x => c3 c.2.2)]
    · rw [if_neg (by omega), if_neg (fun c : Crs n l i x => c2 c.2.1)]
  · rw [if_neg (by omega), if_neg (fun c : Crs n l i x => c1 c.1)]
theorem dia_l2_hit {n : Nat} {l : List Int} (hn : n ≤ 1000) (h : LM n l) (i : Nat) (hi : i < 2 * n) (d : Nat) : ∀ x, x + d = 2 * n → (∃ y, x ≤ y ∧ y < 2 * n ∧ Crs n l i y) → Ev (fun k => pomaderef07_Diagram.l2 k l (n : Int) (i : Int) (x : Int)) 2 := by
  induction d with
  | zero => intro x hx ⟨y, a, b, _⟩; omega
  | succ d ih =>
    intro x hx ⟨y, a, b, e⟩
    by_cases c : Crs n l i x
    · exact Ev.step (f := fun _ => some 2) (fun k => by rw [dia_l2 hn h i x hi (by omega) k, if_pos c]) (Ev.now _)
    · refine Ev.step (fun k => by rw [dia_l2 hn h i x hi (by omega) k, if_neg c]) (ih (x + 1) (by omega) ⟨y, ?_, b, e⟩)
      have : y ≠ x := fun q => c (q ▸ e)
      omega
theorem dia_l2_miss {n : Nat} {l : List Int} (hn : n ≤ 1000) (h : LM n l) (i : Nat) (hi : i < 2 * n) {r : Int} (hr : Ev (fun k => pomaderef07_Diagram.l1 k l (n : Int) ((i + 1 : Nat) : Int)) r) (d : Nat) : ∀ x, x + d = 2 * n → (∀ y, x ≤ y → y < 2 * n → ¬ Crs n l i y) → Ev (fun k => pomaderef07_Diagram.l2 k l (n : Int) (i : Int) (x : Int)) r := by
  have hl := h.len
  induction d with
  | zero =>
    intro x hx _
    refine Ev.step (fun k => ?_) hr
    simp only [pomaderef07_Diagram.l2]
    rw [if_neg (by omega), pw64 (by omega) (by omega)]; rfl
  | succ d ih =>
    intro x hx hc
    exact Ev.step (fun k => by rw [dia_l2 hn h i x hi (by omega) k, if_neg (hc x (by omega) (by omega))]) (ih (x + 1) (by omega) (fun y a b => hc y (by omega) b))
theorem dia_l1_hit {n : Nat} {l : List Int} (hn : n ≤ 1000) (h : LM n l) (d : Nat) : ∀ i, i + d = 2 * n → (∃ j, i ≤ j ∧ j < 2 * n ∧ ∃ y, y < 2 * n ∧ Crs n l j y) → Ev (fun k => pomaderef07_Diagram.l1 k l (n : Int) (i : Int)) 2 := by
  have hl := h.len
  induction d with
  | zero => intro x hx ⟨y, a, b, _⟩; omega
  | succ d ih =>
    intro i hi ⟨j, a, b, y, e, f⟩
    refine Ev.step (f := fun k => pomaderef07_Diagram.l2 k l (n : Int) (i : Int) ((0 : Nat) : Int)) (fun k => by simp only [pomaderef07_Diagram.l1]; rw [if_pos (by omega)]; rfl) ?_
    by_cases c : ∃ y, y < 2 * n ∧ Crs n l i y
    · obtain ⟨y, c1, c2⟩ := c
      exact dia_l2_hit hn h i (by omega) (2 * n) 0 (by omega) ⟨y, by omega, c1, c2⟩
    · refine dia_l2_miss hn h i (by omega) (ih (i + 1) (by omega) ⟨j, ?_, b, y, e, f⟩) (2 * n) 0 (by omega) (fun y _ g k => c ⟨y, g, k⟩)
      have : j ≠ i := fun q => c ⟨y, e, q ▸ f⟩
      omega
theorem dia_l1_miss {n : Nat} {l : List Int} (hn : n ≤ 1000) (h : LM n l) (hc : ∀ i k, i < 2 * n → k < 2 * n → ¬ Crs n l i k) (d : Nat) : ∀ i, i + d = 2 * n → Ev (fun k => pomaderef07_Diagram.l1 k l (n : Int) (i : Int)) 0 := by
  have hl := h.len
  induction d with
  | zero =>
    intro i hi
    refine Ev.step (f := fun _ => some 0) (fun k => ?_) (Ev.now _)
    simp only [pomaderef07_Diagram.l1]
    rw [if_neg (by omega)]
  | succ d ih =>
    intro i hi
    refine Ev.step (f := fun k => pomaderef07_Diagram.l2 k l (n : Int) (i : Int) ((0 : Nat) : Int)) (fun k => by simp only [pomaderef07_Diagram.l1]; rw [if_pos (by omega)]; rfl) ?_
    exact dia_l2_miss hn h i (by omega) (ih (i + 1) (by omega)) (2 * n) 0 (by omega) (fun y _ g => hc i y (by omega) g)
theorem dia_l0 {l : List Int} {n : Nat} (x : Nat) (hx : x < l.length) (hl : l.length ≤ 1000) (k : Nat) : (bad l x → pomaderef07_Diagram.l0 (k + 1) l (n : Int) (x : Int) = some 2) ∧ (¬ bad l x → pomaderef07_Diagram.l0 (k + 1) l (n : Int) (x : Int) = pomaderef07_Diagram.l0 k l (n : Int) ((x + 1 : Nat) : Int)) := by
  have e1 : wrap64 ((x : Int) + 1) = ((x + 1 : Nat) : Int) := by rw [pw64 (by omega) (by omega)]; rfl
  simp only [pomaderef07_Diagram.l0]
  rw [if_pos (by omega), if_pos (by omega), e1]
  unfold bad
  by_cases c1 : rd l (x : Int) < 0
  · rw [if_pos c1]; exact ⟨fun _ => rfl, fun h => absurd (.inl c1) h⟩
  · rw [if_neg c1]
    by_cases c2 : rd l (x : Int) ≥ (l.length : Int)
    · rw [if_pos c2]; exact ⟨fun _ => rfl, fun h => absurd (.inr (.inl c2)) h⟩
    · rw [if_neg c2]
      by_cases c3 : rd l (x : Int) = (x : Int)
      · rw [if_pos c3]; exact ⟨fun _ => rfl, fun h => absurd (.inr (.inr (.inl c3))) h⟩
      · rw [if_neg c3, if_pos (by omega), if_pos (by omega)]
        by_cases c4 : rd l (rd l (x : Int)) = (x : Int)
        · rw [if_pos c4]; exact ⟨fun h => by omega, fun _ => rfl⟩
        · rw [if_neg c4]; exact ⟨fun _ => rfl, fun h => absurd (.inr (.inr (.inr c4))) h⟩
theorem dia_l0_hit {l : List Int} {n : Nat} (hl : l.length ≤ 1000) (d : Nat) : ∀ x, x + d = l.length → (∃ y, x ≤ y ∧ y < l.length ∧ bad l y) → Ev (fun k => pomaderef07_Diagram.l0 k l (n : Int) (x : Int)) 2 := by
  induction d with
  | zero => intro x hx ⟨y, a, b, _⟩; omega
  | succ d ih =>
    intro x hx ⟨y, a, b, e⟩
    by_cases c : bad l x
    · exact Ev.step (f := fun _ => some 2) (fun k => (dia_l0 x (by omega) hl k).1 c) (Ev.now _)
    · refine Ev.step (fun k => (dia_l0 x (by omega) hl k).2 c) (ih (x + 1) (by omega) ⟨y, ?_, b, e⟩)
      have : y ≠ x := fun q => c (q ▸ e)
      omega
theorem dia_l0_miss {l : List Int} {n : Nat} (hl : l.length ≤ 1000) (h : ∀ y, y < l.length → ¬ bad l y) {r : Int} (hr : Ev (fun k => pomaderef07_Diagram.l1 k l (n : Int) ((0 : Nat) : Int)) r) (d : Nat) : ∀ x, x + d = l.length → Ev (fun k => pomaderef07_Diagram.l0 k l (n : Int) (x : Int)) r := by
  induction d with
  | zero =>
    intro x hx
    refine Ev.step (fun k => ?_) hr
    simp only [pomaderef07_Diagram.l0]
    rw [if_neg (by omega)]; rfl
  | succ d ih =>
    intro x hx
    exact Ev.step (fun k => (dia_l0 x (by omega) hl k).2 (h x (by omega))) (ih (x + 1) (by omega))
theorem dia_odd {l : List Int} (hl : l.length ≤ 20) (h : l.length % 2 = 1 ∨ l.length = 0) : Ev (fun k => pomaderef07_Diagram.f k l) 2 := by
  have e : wrap64 ((l.length : Int) / 2) = (l.length : Int) / 2 := pw64 (by omega) (by omega)
  refine Ev.congr (f := fun k => pomaderef07_Diagram.j0 k l ((l.length : Int) / 2) true) (fun k => ?_) (Ev.step (f := fun _ => some 2) (fun k => ?_) (Ev.now _))
  · unfold pomaderef07_Diagram.f
    rw [if_neg (by omega), e]
    by_cases c : (l.length : Int) / 2 < 1
    · rw [if_pos c]
    · rw [if_neg c]
      congr 1
      have : (l.length : Int) % 2 = 1 := by omega
      rw [this]; rfl
  · simp only [pomaderef07_Diagram.j0]
    rw [if_pos trivial]
theorem dia_even {l : List Int} {n : Nat} (hn : 0 < n) (hn2 : n ≤ 10) (hl : l.length = 2 * n) {r : Int} (hr : Ev (fun k => pomaderef07_Diagram.l0 k l (n : Int) ((0 : Nat) : Int)) r) : Ev (fun k => pomaderef07_Diagram.f k l) r := by
  have e : wrap64 ((l.length : Int) / 2) = (n : Int) := by rw [pw64 (by omega) (by omega)]; omega
  refine Ev.congr (f := fun k => pomaderef07_Diagram.j0 k l (n : Int) false) (fun k => ?_) (Ev.step (fun k => ?_) hr)
  · unfold pomaderef07_Diagram.f
    rw [if_neg (by omega), e, if_neg (by omega)]
    congr 1
    have : (l.length : Int) % 2 = 0 := by omega
    rw [this]; rfl
  · simp only [pomaderef07_Diagram.j0]
    rw [if_neg (by decide)]; rfl
/-- what the program and the specification say of a list -/
theorem dia_both (l : List Int) : ∃ e : Int, Ev (fun k => plait_of.f k l) e ∧ Ev (fun k => pomaderef07_Diagram.f k l) e ∧ ((e = 3 ∧ l.length > 20) ∨ (e = 2 ∧ l.length ≤ 20) ∨ (e = 0 ∧ ∃ n, Dia n l ∧ Ev (fun k => plait_diagram_arches.f k l) (strOfNums (brk n l), true))) := by
  by_cases c0 : l.length > 20
  · refine ⟨3, Ev.congr (fun k => ?_) (Ev.now _), Ev.congr (fun k => ?_) (Ev.now _), .inl ⟨rfl, c0⟩⟩
    · unfold plait_of.f; rw [if_pos (by omega)]
    · unfold pomaderef07_Diagram.f; rw [if_pos (by omega)]
  · have ofs : ∀ s b, Ev (fun k => plait_diagram_arches.f k l) (s, b) → Ev (fun k => plait_of.f k l) (if b = true then 0 else 2) := by
      intro s b hs
      refine Ev.congr (fun k => by unfold plait_of.f; rw [if_neg (by omega)]) (Ev.bind hs ?_)
      cases b with
      | true => exact Ev.now _
      | false => exact Ev.now _
    by_cases c1 : l.length % 2 = 1 ∨ l.length = 0
    · exact ⟨2, ofs _ _ (arches_odd c1), dia_odd (by omega) c1, .inr (.inl ⟨rfl, by omega⟩)⟩
    · obtain ⟨n, hn⟩ : ∃ n, l.length = 2 * n := ⟨l.length / 2, by omega⟩
      have hp : 0 < n := by omega
      by_cases c2 : ∃ y, y < l.length ∧ bad l y
      · obtain ⟨y, a, b⟩ := c2
        refine ⟨2, ofs _ _ (arches_start (by omega) hp hn (arch_bad (by omega) hn (2 * n) 0 [] [] (by omega) (by simp) (by simp) ⟨bo n y, by omega, bo_lt (by omega), by rw [bo_bo (by omega)]; exact b⟩)), dia_even hp (by omega) hn (dia_l0_hit (by omega) l.length 0 (by omega) ⟨y, by omega, a, b⟩), .inr (.inl ⟨rfl, by omega⟩)⟩
      · have hbad : ∀ y, y < l.length → ¬ bad l y := fun y a b => c2 ⟨y, a, b⟩
        have hL := lm_of hn (fun p hp => hbad p (by omega))
        have hr := arches_start (by omega) hp hn (arch_run (by omega) hL (2 * n) 0 [] [] (by omega) (fun y hy => by cases hy) (by simp) (by simp))
        have hD := db_pair hL
        by_cases c3 : NCD (2 * n) (Db n l)
        · have e1 := (run_iff hD).2 c3
          have e2 := rout_nc hD c3 (2 * n) 0 [] (by omega) ⟨trivial, fun z => ⟨fun hz => (by cases hz), fun hz => by omega⟩⟩
          rw [List.isEmpty_iff.2 e1, List.nil_append] at hr
          simp only [List.range_zero, List.map_nil, List.nil_append] at e2
          rw [e2] at hr
          exact ⟨0, ofs _ _ hr, dia_even hp (by omega) hn (dia_l0_miss (by omega) hbad (dia_l1_miss (by omega) hL (crs_nc.1 c3) (2 * n) 0 (by omega)) l.length 0 (by omega)), .inr (.inr ⟨rfl, n, ⟨hp, by omega, hL, c3⟩, hr⟩)⟩
        · rw [List.isEmpty_eq_false_iff.2 (fun e => c3 ((run_iff hD).1 e))] at hr
          have hc : ∃ i, i < 2 * n ∧ ∃ k, k < 2 * n ∧ Crs n l i k := by
            refine Classical.byContradiction fun e => c3 (crs_nc.2 (fun i k hi hk c => e ⟨i, hi, k, hk, c⟩))
          obtain ⟨i, hi, k, hk, c⟩ := hc
          exact ⟨2, ofs _ _ hr, dia_even hp (by omega) hn (dia_l0_miss (by omega) hbad (dia_l1_hit (by omega) hL (2 * n) 0 (by omega) ⟨i, by omega, hi, k, hk, c⟩) l.length 0 (by omega)), .inr (.inl ⟨rfl, by omega⟩)⟩
end Go.Proofs.Ytjfkompfkgjdaaa.L
end
section
/- Product by the program; equal lists are the same. -/
namespace Go.Proofs.Ytjfkompfkgjdaaa.L
open Go.RowKit Go.Proofs.Ytjfkompfkgjdaaa.PC Go.Proofs.YtjfkompfkgjdaaaW.PrintWords Go.Proofs.YtjfkompfkgjdaaaW.PrintLast Go.Proofs.Ytjfkompfkgjdaaa.G
theorem same_l0 {a : List Int} (ha : a.length ≤ 1000000) (d : Nat) : ∀ i, i + d = a.length → Ev (fun k => pomadelaw07_same.l0 k a a (i : Int)) true := by
  induction d with
  | zero =>
    intro i hi
    refine Ev.step (f := fun _ => some true) (fun k => ?_) (Ev.now _)
    simp only [pomadelaw07_same.l0]
    rw [if_neg (by omega)]
  | succ d ih =>
    intro i hi
    refine Ev.step (fun k => ?_) (ih (i + 1) (by omega))
    simp only [pomadelaw07_same.l0]
    rw [if_pos (by omega), if_pos (by omega), if_pos (by omega), if_pos trivial, pw64 (by omega) (by omega)]
    rfl
theorem same_ev {a : List Int} (ha : a.length ≤ 1000000) : Ev (fun k => pomadelaw07_same.f k a a) true :=
  Ev.congr (fun k => by unfold pomadelaw07_same.f; rw [if_pos rfl]; rfl) (same_l0 ha a.length 0 (by omega))
theorem Dia.two {n m : Nat} {a : List Int} (h : Dia n a) (k : Dia m a) : n = m := by
  have h1 := h.lm.len
  have h2 := k.lm.len
  omega
/-- the error of two lists -/
def err2 (e1 e2 : Int) (a b : List Int) : Int := if e1 = 0 then if e2 = 0 then if (a.length : Int) = (b.length : Int) then 0 else 2 else e2 else e1
/-- what two lists make -/
theorem product_plait (a b : List Int) : ∃ e1 e2 : Int, Ev (fun k => plait_of.f k a) e1 ∧ Ev (fun k => pomaderef07_Diagram.f k a) e1 ∧ Ev (fun k => plait_of.f k b) e2 ∧ Ev (fun k => pomaderef07_Diagram.f k b) e2 ∧
    ((e1 = 0 ∧ e2 = 0 ∧ a.length = b.length ∧ ∃ n, Dia n a ∧ Dia n b ∧ Ev (fun k => plait_Product.f k a b) (prodL n a b, (lops n (fn a) (fn b) : Int), 0)) ∨
     (¬ (e1 = 0 ∧ e2 = 0 ∧ a.length = b.length) ∧ err2 e1 e2 a b ≠ 0 ∧ Ev (fun k => plait_Product.f k a b) ([], 0, err2 e1 e2 a b))) := by
  obtain ⟨e1, o1, d1, c1⟩ := dia_both a
  obtain ⟨e2, o2, d2, c2⟩ := dia_both b
  refine ⟨e1, e2, o1, d1, o2, d2, ?_⟩
  unfold err2
  by_cases z1 : e1 = 0
  · by_cases z2 : e2 = 0
    · by_cases z3 : (a.length : Int) = (b.length : Int)
      · have g1 : ∃ n, Dia n a := by
          rcases c1 with c | c | ⟨_, n, c, _⟩
          · omega
          · omega
          · exact ⟨n, c⟩
        have g2 : ∃ n, Dia n b := by
          rcases c2 with c | c | ⟨_, n, c, _⟩
          · omega
          · omega
          · exact ⟨n, c⟩
        obtain ⟨n, g1⟩ := g1
        obtain ⟨m, g2⟩ := g2
        have l1 := g1.lm.len
        have l2 := g2.lm.len
        have hl := g1.lim
        obtain rfl : m = n := by omega
        refine .inl ⟨z1, z2, by omega, m, g1, g2, ?_⟩
        refine Ev.congr (fun k => rfl) (Ev.bind o1 (Ev.congr (fun k => by rw [if_pos z1]) (Ev.bind o2 (Ev.congr (fun k => ?_) (Ev.now _)))))
        rw [if_pos z2, if_pos z3, product_ok (by omega) g1.lm g2.lm, Option.bind_some]
      · rw [if_pos z1, if_pos z2, if_neg z3]
        refine .inr ⟨fun h => z3 (by omega), by decide, ?_⟩
        refine Ev.congr (fun k => rfl) (Ev.bind o1 (Ev.congr (fun k => by rw [if_pos z1]) (Ev.bind o2 (Ev.congr (fun k => ?_) (Ev.now _)))))
        rw [if_pos z2, if_neg z3]
    · rw [if_pos z1, if_neg z2]
      refine .inr ⟨fun h => z2 h.2.1, z2, ?_⟩
      refine Ev.congr (fun k => rfl) (Ev.bind o1 (Ev.congr (fun k => by rw [if_pos z1]) (Ev.bind o2 (Ev.congr (fun k => ?_) (Ev.now _)))))
      rw [if_neg z2]
  · rw [if_neg z1]
    refine .inr ⟨fun h => z1 h.1, z1, ?_⟩
    exact Ev.congr (fun k => rfl) (Ev.bind o1 (Ev.congr (fun k => by rw [if_neg z1]) (Ev.now _)))
end Go.Proofs.Ytjfkompfkgjdaaa.L
end
section
namespace Go.Proofs.Ytjfkompfkgjdaaa.PC
open Go.RowKit Go.Proofs.YtjfkompfkgjdaaaW.PrintWords Go.Proofs.YtjfkompfkgjdaaaW.PrintLast Go.Proofs.YtjfkompfkgjdaaaW.PrintMore
attribute [local go_sem] max2_int min2_int max_two min_two max_three min_three max_four min_four   -- for this text's walks alone
set_option linter.unusedVariables false
set_option linter.unusedSimpArgs false
end Go.Proofs.Ytjfkompfkgjdaaa.PC
end
section
/- The identity, by the program and by the specification. -/
namespace Go.Proofs.Ytjfkompfkgjdaaa.L
open Go.RowKit Go.Proofs.Ytjfkompfkgjdaaa.PC Go.Proofs.YtjfkompfkgjdaaaW.PrintWords Go.Proofs.YtjfkompfkgjdaaaW.PrintLast Go.Proofs.Ytjfkompfkgjdaaa.G
theorem lm_of_fun {n : Nat} {l : List Int} {f : Nat → Nat} (hl : l.length = 2 * n) (h : ∀ z : Nat, z < 2 * n → rd l (z : Int) = (f z : Int)) (hf : Mat n f) : LM n l ∧ ∀ z, z < 2 * n → fn l z = f z := by
  have e : ∀ z, z < 2 * n → fn l z = f z := fun z hz => by
    show (rd l (z : Int)).toNat = _
    rw [h z hz, Int.toNat_natCast]
  exact ⟨⟨hl, fun z hz => by rw [h z hz, e z hz], mat_congr e hf⟩, e⟩
end Go.Proofs.Ytjfkompfkgjdaaa.L
end
section
/- Three matchings on top of one another; other names: plain. -/
namespace Go.Proofs.Ytjfkompfkgjdaaa.G
theorem prs_map (F f g : Nat → Nat) (k : Nat) : (prs f g k).map (fun p => (F p.1, F p.2)) = prs (fun i => F (f i)) (fun i => F (g i)) k := by
  induction k with
  | zero => rfl
  | succ k ih => simp only [prs, List.map_cons, ih]
theorem prs_congr {f g f' g' : Nat → Nat} (k : Nat) (h : ∀ i, i < k → f i = f' i ∧ g i = g' i) : prs f g k = prs f' g' k := by
  induction k with
  | zero => rfl
  | succ k ih =>
    have := h k (by omega)
    simp only [prs, ih (fun i hi => h i (by omega)), this.1, this.2]
theorem prs_mem {f g : Nat → Nat} {k : Nat} {p : Nat × Nat} (h : p ∈ prs f g k) : ∃ i, i < k ∧ p = (f i, g i) := by
  induction k with
  | zero => cases h
  | succ k ih =>
    rcases List.mem_cons.1 h with rfl | h
    · exact ⟨k, by omega, rfl⟩
    · obtain ⟨i, a, b⟩ := ih h; exact ⟨i, by omega, b⟩
theorem prs_flip {f g : Nat → Nat} (k : Nat) : ∀ σ : Nat → Nat, Inv2 σ → OK σ (prs f g k) → glue (prs g f k) σ = glue (prs f g k) σ := by
  induction k with
  | zero => intro σ _ _; rfl
  | succ k ih =>
    intro σ hi h
    obtain ⟨h0, h1, h2, h3, h4, h5⟩ := h
    have e := con_swap (f k) (g k) hi h0
    simp only [prs, glue]
    rw [← e.1, ← e.2, ih _ (con_inv hi h1 h2 h0) (h5.con hi h0 h3 h4)]
theorem OK.app {σ : Nat → Nat} {l l' : List (Nat × Nat)} (h : OK σ l) (h' : OK σ l') (hd : ∀ z, pts l z → ¬ pts l' z) : OK σ (l ++ l') := by
  induction l with
  | nil => exact h'
  | cons p l ih =>
    obtain ⟨x, y⟩ := p
    obtain ⟨h0, h1, h2, h3, h4, h5⟩ := h
    have pa : ∀ z, pts (l ++ l') z → pts l z ∨ pts l' z := fun z ⟨p, m, e⟩ => (List.mem_append.1 m).elim (fun m => .inl ⟨p, m, e⟩) (fun m => .inr ⟨p, m, e⟩)
    refine ⟨h0, h1, h2, fun q => ?_, fun q => ?_, ih h5 (fun z hz => hd z ((pts_cons _ _ _ _).2 (.inr (.inr hz))))⟩
    · exact (pa _ q).elim h3 (hd x ((pts_cons _ _ _ _).2 (.inl rfl)))
    · exact (pa _ q).elim h4 (hd y ((pts_cons _ _ _ _).2 (.inr (.inl rfl))))
theorem glue_ok (l l' : List (Nat × Nat)) : ∀ σ : Nat → Nat, Inv2 σ → OK σ (l ++ l') → OK (glue l σ).1 l' := by
  induction l with
  | nil => intro σ _ h; exact h
  | cons p l ih =>
    obtain ⟨x, y⟩ := p
    intro σ hi h
    obtain ⟨h0, h1, h2, h3, h4, h5⟩ := h
    exact ih _ (con_inv hi h1 h2 h0) (OK.con hi h0 h3 h4 h5)
/-- a product inside of something greater -/
theorem glue_sub {n : Nat} {a b F σ : Nat → Nat} (ha : Mat n a) (hb : Mat n b) (hF : ∀ u v, u < 4 * n → v < 4 * n → F u = F v → u = v) (h : Emb (4 * n) F (jn n a b) σ) {p : Nat} (hp : p < 2 * n) :
    (glue (prs (fun i => F (n + i)) (fun i => F (2 * n + i)) n) σ).1 (F (emb n p)) = F (emb n (prod n a b p)) := by
  have g := glue_emb hF (mids n) h (fun p hp => by obtain ⟨i, hi, rfl⟩ := prs_mem hp; simp only [up, dn]; omega)
  have e : (mids n).map (fun p => (F p.1, F p.2)) = prs (fun i => F (n + i)) (fun i => F (2 * n + i)) n := prs_map _ _ _ _
  rw [e] at g
  have := (g.1 (emb n p) (emb_out hp).2).2
  rw [this, (prod_emb ha hb hp).1]
theorem glue_sub2 {n : Nat} {a b F σ : Nat → Nat} (hF : ∀ u v, u < 4 * n → v < 4 * n → F u = F v → u = v) (h : Emb (4 * n) F (jn n a b) σ) :
    (glue (prs (fun i => F (n + i)) (fun i => F (2 * n + i)) n) σ).2 = lops n a b := by
  have g := glue_emb hF (mids n) h (fun p hp => by obtain ⟨i, hi, rfl⟩ := prs_mem hp; simp only [up, dn]; omega)
  have e : (mids n).map (fun p => (F p.1, F p.2)) = prs (fun i => F (n + i)) (fun i => F (2 * n + i)) n := prs_map _ _ _ _
  rw [e] at g
  exact g.2
/-! ### three on top of one another -/
def j3 (n : Nat) (a b c : Nat → Nat) (z : Nat) : Nat := if z < 2 * n then a z else if z < 4 * n then 2 * n + b (z - 2 * n) else if z < 6 * n then 4 * n + c (z - 4 * n) else z
theorem j3_a {n : Nat} {a b c : Nat → Nat} {z : Nat} (h : z < 2 * n) : j3 n a b c z = a z := by unfold j3; rw [if_pos h]
theorem j3_b {n : Nat} {a b c : Nat → Nat} {z : Nat} (h : z < 2 * n) : j3 n a b c (2 * n + z) = 2 * n + b z := by unfold j3; rw [if_neg (by omega), if_pos (by omega), Nat.add_sub_cancel_left]
theorem j3_c {n : Nat} {a b c : Nat → Nat} {z : Nat} (h : z < 2 * n) : j3 n a b c (4 * n + z) = 4 * n + c z := by unfold j3; rw [if_neg (by omega), if_neg (by omega), if_pos (by omega), Nat.add_sub_cancel_left]
theorem j3_off {n : Nat} {a b c : Nat → Nat} {z : Nat} (h : 6 * n ≤ z) : j3 n a b c z = z := by unfold j3; rw [if_neg (by omega), if_neg (by omega), if_neg (by omega)]
theorem j3_cases {n : Nat} (z : Nat) : z < 2 * n ∨ (∃ y, y < 2 * n ∧ z = 2 * n + y) ∨ (∃ y, y < 2 * n ∧ z = 4 * n + y) ∨ 6 * n ≤ z := by
  by_cases c1 : z < 2 * n
  · exact .inl c1
  · by_cases c2 : z < 4 * n
    · exact .inr (.inl ⟨z - 2 * n, by omega, by omega⟩)
    · by_cases c3 : z < 6 * n
      · exact .inr (.inr (.inl ⟨z - 4 * n, by omega, by omega⟩))
      · exact .inr (.inr (.inr (by omega)))
theorem j3_inv {n : Nat} {a b c : Nat → Nat} (ha : Mat n a) (hb : Mat n b) (hc : Mat n c) : Inv2 (j3 n a b c) := by
  intro z
  rcases @j3_cases n z with h | ⟨y, h, rfl⟩ | ⟨y, h, rfl⟩ | h
  · rw [j3_a h, j3_a (ha z h).1, (ha z h).2.2]
  · rw [j3_b h, j3_b (hb y h).1, (hb y h).2.2]
  · rw [j3_c h, j3_c (hc y h).1, (hc y h).2.2]
  · rw [j3_off h, j3_off h]
theorem j3_alive {n : Nat} {a b c : Nat → Nat} (ha : Mat n a) (hb : Mat n b) (hc : Mat n c) {z : Nat} (hz : z < 6 * n) : j3 n a b c z ≠ z := by
  rcases @j3_cases n z with h | ⟨y, h, rfl⟩ | ⟨y, h, rfl⟩ | h
  · rw [j3_a h]; exact (ha z h).2.1
  · rw [j3_b h]; intro e; exact (hb y h).2.1 (by omega)
  · rw [j3_c h]; intro e; exact (hc y h).2.1 (by omega)
  · omega
theorem assoc {n : Nat} {a b c : Nat → Nat} (ha : Mat n a) (hb : Mat n b) (hc : Mat n c) :
    (∀ p, p < 2 * n → prod n (prod n a b) c p = prod n a (prod n b c) p) ∧ lops n (prod n a b) c + lops n a b = lops n a (prod n b c) + lops n b c := by
  have hab := prod_mat ha hb
  have hbc := prod_mat hb hc
  have hi := j3_inv ha hb hc
  let P := prs (fun i => n + i) (fun i => 2 * n + i) n
  let Q := prs (fun i => 3 * n + i) (fun i => 4 * n + i) n
  have okP : OK (j3 n a b c) P := prs_ok n (fun i j _ _ => by omega) (fun i hi => ⟨j3_alive ha hb hc (by omega), j3_alive ha hb hc (by omega)⟩)
  have okQ : OK (j3 n a b c) Q := prs_ok n (fun i j _ _ => by omega) (fun i hi => ⟨j3_alive ha hb hc (by omega), j3_alive ha hb hc (by omega)⟩)
  have ptP : ∀ z, pts P z → n ≤ z ∧ z < 3 * n := fun z h => by obtain ⟨i, a, b⟩ := (pts_prs _ _ _ _).1 h; omega
  have ptQ : ∀ z, pts Q z → 3 * n ≤ z ∧ z < 5 * n := fun z h => by obtain ⟨i, a, b⟩ := (pts_prs _ _ _ _).1 h; omega
  have okPQ : OK (j3 n a b c) (P ++ Q) := okP.app okQ (fun z h1 h2 => by have := ptP z h1; have := ptQ z h2; omega)
  obtain ⟨same, okQP⟩ := glue_perm (List.perm_append_comm (l₁ := P) (l₂ := Q)) _ hi okPQ
  rw [glue_app, glue_app] at same
  -- first the upper two
  have eP : Emb (4 * n) (fun z => z) (jn n a b) (j3 n a b c) := fun z hz => ⟨jn_lt ha hb hz, by
    rcases @jn_cases n z with h | ⟨y, h, rfl⟩ | h
    · show j3 n a b c z = jn n a b z
      rw [j3_a h, jn_lo h]
    · show j3 n a b c (2 * n + y) = jn n a b (2 * n + y)
      rw [j3_b h, jn_hi h]
    · omega⟩
  have p1 : ∀ p, p < 2 * n → (glue P (j3 n a b c)).1 (emb n p) = emb n (prod n a b p) := fun p hp => glue_sub (F := fun z => z) ha hb (fun u v _ _ e => e) eP hp
  have p2 : (glue P (j3 n a b c)).2 = lops n a b := glue_sub2 (F := fun z => z) (fun u v _ _ e => e) eP
  have p3 : ∀ y, y < 2 * n → (glue P (j3 n a b c)).1 (4 * n + y) = 4 * n + c y := fun y hy => by
    rw [glue_off (fun z => 4 * n ≤ z ∧ z < 6 * n) P (fun z hz => ?_) hi okP (fun p hp => ?_) (4 * n + y) (by omega), j3_c hy]
    · obtain ⟨x, rfl⟩ : ∃ x, z = 4 * n + x := ⟨z - 4 * n, by omega⟩
      rw [j3_c (by omega)]
      have := (hc x (by omega)).1
      omega
    · obtain ⟨i, h, rfl⟩ := prs_mem hp
      dsimp only
      omega
  let F : Nat → Nat := fun z => if z < 2 * n then emb n z else 2 * n + z
  have hF : ∀ u v, u < 4 * n → v < 4 * n → F u = F v → u = v := by
    intro u v hu hv e
    simp only [F, emb] at e
    split at e <;> split at e <;> (try split at e) <;> (try split at e) <;> omega
  have eF : Emb (4 * n) F (jn n (prod n a b) c) (glue P (j3 n a b c)).1 := fun z hz => ⟨jn_lt hab hc hz, by
    rcases @jn_cases n z with h | ⟨y, h, rfl⟩ | h
    · have := (hab z h).1
      simp only [F]
      rw [jn_lo h, if_pos h, if_pos this]
      exact p1 z h
    · simp only [F]
      rw [jn_hi h, if_neg (by omega), if_neg (by omega), show 2 * n + (2 * n + y) = 4 * n + y by omega, p3 y h]
      omega
    · omega⟩
  have qF : prs (fun i => F (n + i)) (fun i => F (2 * n + i)) n = Q := prs_congr n (fun i hi => by
    simp only [F, emb]
    rw [if_pos (by omega), if_neg (by omega), if_neg (by omega)]
    omega)
  have f1 : ∀ p, p < 2 * n → (glue Q (glue P (j3 n a b c)).1).1 (F (emb n p)) = F (emb n (prod n (prod n a b) c p)) := fun p hp => by
    rw [← qF]; exact glue_sub hab hc hF eF hp
  have f2 : (glue Q (glue P (j3 n a b c)).1).2 = lops n (prod n a b) c := by
    rw [← qF]; exact glue_sub2 hF eF
  -- first the lower two
  let G : Nat → Nat := fun z => 2 * n + z
  have eQ : Emb (4 * n) G (jn n b c) (j3 n a b c) := fun z hz => ⟨jn_lt hb hc hz, by
    rcases @jn_cases n z with h | ⟨y, h, rfl⟩ | h
    · simp only [G]; rw [j3_b h, jn_lo h]
    · simp only [G]; rw [show 2 * n + (2 * n + y) = 4 * n + y by omega, j3_c h, jn_hi h]; omega
    · omega⟩
  have gQ : prs (fun i => G (n + i)) (fun i => G (2 * n + i)) n = Q := prs_congr n (fun i hi => by simp only [G]; omega)
  have hG : ∀ u v, u < 4 * n → v < 4 * n → G u = G v → u = v := fun u v _ _ e => by simp only [G] at e; omega
  have q1 : ∀ p, p < 2 * n → (glue Q (j3 n a b c)).1 (2 * n + emb n p) = 2 * n + emb n (prod n b c p) := fun p hp => by
    rw [← gQ]; exact glue_sub hb hc hG eQ hp
  have q2 : (glue Q (j3 n a b c)).2 = lops n b c := by rw [← gQ]; exact glue_sub2 hG eQ
  have q3 : ∀ y, y < 2 * n → (glue Q (j3 n a b c)).1 y = a y := fun y hy => by
    rw [glue_off (fun z => z < 2 * n) Q (fun z hz => ?_) hi okQ (fun p hp => ?_) y hy, j3_a hy]
    · rw [j3_a hz]; exact (ha z hz).1
    · obtain ⟨i, h, rfl⟩ := prs_mem hp
      dsimp only
      omega
  let H : Nat → Nat := fun z => if z < 2 * n then z else 2 * n + emb n (z - 2 * n)
  have hH : ∀ u v, u < 4 * n → v < 4 * n → H u = H v → u = v := by
    intro u v hu hv e
    simp only [H, emb] at e
    split at e <;> split at e <;> (try split at e) <;> (try split at e) <;> omega
  have eH : Emb (4 * n) H (jn n a (prod n b c)) (glue Q (j3 n a b c)).1 := fun z hz => ⟨jn_lt ha hbc hz, by
    rcases @jn_cases n z with h | ⟨y, h, rfl⟩ | h
    · have := (ha z h).1
      simp only [H]
      rw [jn_lo h, if_pos h, if_pos this]
      exact q3 z h
    · have := (hbc y h).1
      simp only [H]
      rw [jn_hi h, if_neg (by omega), if_neg (by omega), Nat.add_sub_cancel_left, Nat.add_sub_cancel_left]
      exact q1 y h
    · omega⟩
  have pH : prs (fun i => H (n + i)) (fun i => H (2 * n + i)) n = P := prs_congr n (fun i hi => by
    simp only [H, emb]
    rw [if_pos (by omega), if_neg (by omega), Nat.add_sub_cancel_left, if_pos hi]
    exact ⟨rfl, rfl⟩)
  have h1 : ∀ p, p < 2 * n → (glue P (glue Q (j3 n a b c)).1).1 (H (emb n p)) = H (emb n (prod n a (prod n b c) p)) := fun p hp => by
    rw [← pH]; exact glue_sub ha hbc hH eH hp
  have h2 : (glue P (glue Q (j3 n a b c)).1).2 = lops n a (prod n b c) := by
    rw [← pH]; exact glue_sub2 hH eH
  have FH : ∀ p, p < 2 * n → F (emb n p) = H (emb n p) ∧ emb n p < 4 * n := by
    intro p hp
    simp only [F, H, emb]
    by_cases c1 : p < n
    · rw [if_pos c1, if_pos (by omega), if_pos c1, if_pos (by omega)]; omega
    · rw [if_neg c1, if_neg (by omega), if_neg (by omega), if_neg (by omega)]; omega
  constructor
  · intro p hp
    have s1 := congrArg Prod.fst same
    dsimp only at s1
    have e := f1 p hp
    rw [s1, (FH p hp).1, h1 p hp] at e
    have m1 := (prod_mat ha hbc p hp).1
    have m2 := (prod_mat hab hc p hp).1
    rw [← (FH _ m1).1] at e
    have := hF _ _ (FH _ m1).2 (FH _ m2).2 e
    have := congrArg (une n) this
    rw [une_emb, une_emb] at this
    exact this.symm
  · have s2 := congrArg Prod.snd same
    dsimp only at s2
    rw [f2, p2, h2, q2] at s2
    exact s2
end Go.Proofs.Ytjfkompfkgjdaaa.G
end
section
/- The identity in products; a product of matchings without crossings has none: plain. -/
namespace Go.Proofs.Ytjfkompfkgjdaaa.G
/-! ### the identity -/
theorem cntP_none {P : Nat → Prop} (k : Nat) (h : ∀ i, i < k → ¬ P i) : cntP P k = 0 := by
  induction k with
  | zero => rfl
  | succ k ih => simp only [cntP]; rw [ih (fun i hi => h i (by omega)), if_neg (h k (by omega))]
/-! ### a product of diagrams without crossings has none -/
def bo (n i : Nat) : Nat := if i < n then i else 3 * n - 1 - i
def NCf (n : Nat) (a : Nat → Nat) : Prop := ∀ i k, i < 2 * n → k < 2 * n → ¬ (bo n i < bo n k ∧ bo n k < bo n (a i) ∧ bo n (a i) < bo n (a k))
def pos4 (n z : Nat) : Nat := if z < n then z else if z < 2 * n then 3 * n - 1 - z else if z < 3 * n then z else 7 * n - 1 - z
theorem crs_of (ps : Nat → Nat) (u v p q : Nat) (h1 : ¬ (ps u < ps p ∧ ps p < ps v ∧ ps v < ps q)) (h2 : ¬ (ps u < ps q ∧ ps q < ps v ∧ ps v < ps p)) (h3 : ¬ (ps v < ps p ∧ ps p < ps u ∧ ps u < ps q)) (h4 : ¬ (ps v < ps q ∧ ps q < ps u ∧ ps u < ps p))
    (h5 : ¬ (ps p < ps u ∧ ps u < ps q ∧ ps q < ps v)) (h6 : ¬ (ps p < ps v ∧ ps v < ps q ∧ ps q < ps u)) (h7 : ¬ (ps q < ps u ∧ ps u < ps p ∧ ps p < ps v)) (h8 : ¬ (ps q < ps v ∧ ps v < ps p ∧ ps p < ps u))
    (n1 : ps u ≠ ps p) (n2 : ps u ≠ ps q) (n3 : ps v ≠ ps p) (n4 : ps v ≠ ps q) : crs ps u v p q = false := by
  unfold crs
  by_cases c1 : ps p < ps u <;> by_cases c2 : ps q < ps u <;> by_cases c3 : ps p < ps v <;> by_cases c4 : ps q < ps v <;> simp only [c1, c2, c3, c4, decide_true, decide_false] <;> first | rfl | (exfalso; omega)
theorem of_crs (ps : Nat → Nat) (u v p q : Nat) (h : crs ps u v p q = false) : ¬ (ps u < ps p ∧ ps p < ps v ∧ ps v < ps q) := by
  intro ⟨a, b, c⟩
  unfold crs at h
  rw [decide_eq_false (by omega), decide_eq_false (by omega), decide_eq_true b, decide_eq_false (by omega)] at h
  exact absurd h (by decide)
theorem pos4_inj {n u v : Nat} (hu : u < 4 * n) (hv : v < 4 * n) (h : pos4 n u = pos4 n v) : u = v := by
  unfold pos4 at h
  split at h <;> split at h <;> (try split at h) <;> (try split at h) <;> (try split at h) <;> (try split at h) <;> omega
theorem pos4_lo {n z : Nat} (h : z < 2 * n) : pos4 n z = bo n z ∧ pos4 n z < 2 * n := by
  unfold pos4 bo
  by_cases c : z < n
  · rw [if_pos c, if_pos c]; omega
  · rw [if_neg c, if_neg c, if_pos h]; omega
theorem pos4_hi {n z : Nat} (h : z < 2 * n) : pos4 n (2 * n + z) = 2 * n + bo n z := by
  unfold pos4 bo
  by_cases c : z < n
  · rw [if_neg (by omega), if_neg (by omega), if_pos (by omega), if_pos c]
  · rw [if_neg (by omega), if_neg (by omega), if_neg (by omega), if_neg c]; omega
theorem jn_nc {n : Nat} {a b : Nat → Nat} (ha : Mat n a) (hb : Mat n b) (na : NCf n a) (nb : NCf n b) : NC (pos4 n) (jn n a b) := by
  have hi := jn_inv ha hb
  intro u p hu hp pu pv
  have hu4 := (jn_alive ha hb).1 hu
  have hp4 := (jn_alive ha hb).1 hp
  have hv4 := jn_lt ha hb hu4
  have hq4 := jn_lt ha hb hp4
  have n1 : pos4 n u ≠ pos4 n p := fun e => pu (pos4_inj hu4 hp4 e).symm
  have n2 : pos4 n u ≠ pos4 n (jn n a b p) := fun e => pv (by have := pos4_inj hu4 hq4 e; rw [this, hi p])
  have n3 : pos4 n (jn n a b u) ≠ pos4 n p := fun e => pv (pos4_inj hv4 hp4 e).symm
  have n4 : pos4 n (jn n a b u) ≠ pos4 n (jn n a b p) := fun e => pu (hi.inj (pos4_inj hv4 hq4 e)).symm
  rcases @jn_cases n u with cu | ⟨y, cu, rfl⟩ | cu
  · rcases @jn_cases n p with cp | ⟨x, cp, rfl⟩ | cp
    · have h1 := ha u cu
      have h2 := ha p cp
      rw [jn_lo cu] at n3 n4 ⊢
      rw [jn_lo cp] at n2 n4 ⊢
      have m1 := na u p cu cp
      have m2 := na u (a p) cu h2.1
      have m3 := na (a u) p h1.1 cp
      have m4 := na (a u) (a p) h1.1 h2.1
      have m5 := na p u cp cu
      have m6 := na p (a u) cp h1.1
      have m7 := na (a p) u h2.1 cu
      have m8 := na (a p) (a u) h2.1 h1.1
      rw [h2.2.2] at m2 m4 m7 m8
      rw [h1.2.2] at m3 m4 m6 m8
      rw [← (pos4_lo cu).1, ← (pos4_lo cp).1, ← (pos4_lo h1.1).1, ← (pos4_lo h2.1).1] at m1 m2 m3 m4 m5 m6 m7 m8
      exact crs_of _ _ _ _ _ m1 m2 m3 m4 m5 m6 m7 m8 n1 n2 n3 n4
    · have h1 := ha u cu
      have h2 := hb x cp
      rw [jn_lo cu] at n3 n4 ⊢
      rw [jn_hi cp] at n2 n4 ⊢
      have k1 := (pos4_lo cu).2
      have k2 := (pos4_lo h1.1).2
      have k3 := pos4_hi cp
      have k4 := pos4_hi h2.1
      apply crs_of <;> omega
    · omega
  · rcases @jn_cases n p with cp | ⟨x, cp, rfl⟩ | cp
    · have h1 := hb y cu
      have h2 := ha p cp
      rw [jn_hi cu] at n3 n4 ⊢
      rw [jn_lo cp] at n2 n4 ⊢
      have k1 := (pos4_lo cp).2
      have k2 := (pos4_lo h2.1).2
      have k3 := pos4_hi cu
      have k4 := pos4_hi h1.1
      apply crs_of <;> omega
    · have h1 := hb y cu
      have h2 := hb x cp
      rw [jn_hi cu] at n3 n4 ⊢
      rw [jn_hi cp] at n2 n4 ⊢
      have m1 := nb y x cu cp
      have m2 := nb y (b x) cu h2.1
      have m3 := nb (b y) x h1.1 cp
      have m4 := nb (b y) (b x) h1.1 h2.1
      have m5 := nb x y cp cu
      have m6 := nb x (b y) cp h1.1
      have m7 := nb (b x) y h2.1 cu
      have m8 := nb (b x) (b y) h2.1 h1.1
      rw [h2.2.2] at m2 m4 m7 m8
      rw [h1.2.2] at m3 m4 m6 m8
      have k1 := pos4_hi cu
      have k2 := pos4_hi cp
      have k3 := pos4_hi h1.1
      have k4 := pos4_hi h2.1
      apply crs_of <;> omega
    · omega
  · omega
/-- the pairs from index m on, rising -/
def prsA (f g : Nat → Nat) : Nat → Nat → List (Nat × Nat)
  | _, 0 => []
  | m, k + 1 => (f m, g m) :: prsA f g (m + 1) k
theorem prsA_perm (f g : Nat → Nat) (k : Nat) : ∀ m, (prs f g (m + k)).Perm (prsA f g m k ++ prs f g m) := by
  induction k with
  | zero => intro m; exact .refl _
  | succ k ih =>
    intro m
    have := ih (m + 1)
    rw [show m + (k + 1) = (m + 1) + k by omega]
    refine this.trans ?_
    simp only [prs, prsA, List.cons_append]
    exact List.perm_middle
theorem mids_adj {n : Nat} (k : Nat) : ∀ (m : Nat) (σ : Nat → Nat), m + k = n → Inv2 σ → OK σ (prsA (up n) (dn n) m k) → (∀ z, σ z ≠ z → z < 4 * n ∧ ∀ j, j < m → z ≠ n + j ∧ z ≠ 2 * n + j) → Adjs (pos4 n) (prsA (up n) (dn n) m k) σ := by
  induction k with
  | zero => intro m σ _ _ _ _; trivial
  | succ k ih =>
    intro m σ hm hi h hz
    have h' := h
    obtain ⟨h0, h1, h2, h3, h4, h5⟩ := h'
    refine ⟨fun z az zx zy => ?_, ih (m + 1) _ (by omega) (con_inv hi h1 h2 h0) (h5.con hi h0 h3 h4) (fun z az => ?_)⟩
    · have a := hz z az
      have a1 : ∀ j, z = n + j → m < j := fun j e => by
        refine Classical.byContradiction fun q => ?_
        by_cases c : j = m
        · subst c; exact zx e
        · exact (a.2 j (by omega)).1 e
      have a2 : ∀ j, z = 2 * n + j → m < j := fun j e => by
        refine Classical.byContradiction fun q => ?_
        by_cases c : j = m
        · subst c; exact zy e
        · exact (a.2 j (by omega)).2 e
      have e1 : pos4 n (up n m) = 2 * n - 1 - m := by unfold pos4 up; rw [if_neg (by omega), if_pos (by omega)]; omega
      have e2 : pos4 n (dn n m) = 2 * n + m := by unfold pos4 dn; rw [if_neg (by omega), if_neg (by omega), if_pos (by omega)]
      rw [e1, e2]
      unfold pos4
      by_cases c1 : z < n
      · rw [if_pos c1]; omega
      · rw [if_neg c1]
        by_cases c2 : z < 2 * n
        · rw [if_pos c2]
          have := a1 (z - n) (by omega)
          omega
        · rw [if_neg c2]
          by_cases c3 : z < 3 * n
          · rw [if_pos c3]
            have := a2 (z - 2 * n) (by omega)
            omega
          · rw [if_neg c3]; omega
    · have n1 : σ z ≠ z := fun e => az (con_dead hi h1 h2 e)
      have n2 : ¬ (z = up n m ∨ z = dn n m) := fun e => az (con_dead2 e)
      have a := hz z n1
      refine ⟨a.1, fun j hj => ?_⟩
      by_cases c : j = m
      · subst c; exact ⟨fun e => n2 (.inl e), fun e => n2 (.inr e)⟩
      · exact a.2 j (by omega)
theorem prod_nc {n : Nat} {a b : Nat → Nat} (ha : Mat n a) (hb : Mat n b) (na : NCf n a) (nb : NCf n b) : NCf n (prod n a b) := by
  have hi := jn_inv ha hb
  have ho := mids_ok ha hb
  have pm : (mids n).Perm (prsA (up n) (dn n) 0 n) := by
    have := prsA_perm (up n) (dn n) n 0
    rw [Nat.zero_add] at this
    unfold mids
    simpa [prs] using this
  obtain ⟨same, okA⟩ := glue_perm pm _ hi ho
  have nc := glue_nc _ hi okA (fun u v hu hv e => pos4_inj ((jn_alive ha hb).1 hu) ((jn_alive ha hb).1 hv) e) (jn_nc ha hb na nb)
    (mids_adj n 0 _ (by omega) hi okA (fun z hz => ⟨(jn_alive ha hb).1 hz, fun j hj => by omega⟩))
  rw [← same] at nc
  intro i k hik hk c
  have hp := prod_mat ha hb
  have e1 := prod_emb ha hb hik
  have e2 := prod_emb ha hb hk
  have ai := glue_alive _ _ hi ho _ (emb_out hik).1 ((jn_alive ha hb).2 (emb_out hik).2)
  have ak := glue_alive _ _ hi ho _ (emb_out hk).1 ((jn_alive ha hb).2 (emb_out hk).2)
  have inj : ∀ x y, emb n x = emb n y → x = y := fun x y e => by have := congrArg (une n) e; rwa [une_emb, une_emb] at this
  have ne1 : emb n k ≠ emb n i := fun e => by have := inj _ _ e; subst this; omega
  have ne2 : emb n k ≠ (glue (mids n) (jn n a b)).1 (emb n i) := fun e => by
    rw [← e1.1] at e
    have e := inj _ _ e
    subst e
    rw [(hp i hik).2.2] at c
    omega
  have h := of_crs _ _ _ _ _ (nc (emb n i) (emb n k) ai ak ne1 ne2)
  rw [← e1.1, ← e2.1] at h
  have ord : ∀ x y, x < 2 * n → y < 2 * n → bo n x < bo n y → pos4 n (emb n x) < pos4 n (emb n y) := by
    intro x y hx hy hxy
    have v : ∀ z, z < 2 * n → pos4 n (emb n z) = if z < n then bo n z else 2 * n + bo n z := by
      intro z hz
      unfold emb
      by_cases d : z < n
      · rw [if_pos d, if_pos d, (pos4_lo hz).1]
      · rw [if_neg d, if_neg d, Nat.add_comm, pos4_hi hz]
    rw [v x hx, v y hy]
    unfold bo at hxy ⊢
    by_cases cx : x < n <;> by_cases cy : y < n <;> simp only [cx, cy, ↓reduceIte] at hxy ⊢ <;> omega
  exact h ⟨ord _ _ hik hk c.1, ord _ _ hk e1.2 c.2.1, ord _ _ e1.2 e2.2 c.2.2⟩
end Go.Proofs.Ytjfkompfkgjdaaa.G
end
section
/- Products of diagrams are diagrams; three in a row; the identity. -/
namespace Go.Proofs.Ytjfkompfkgjdaaa.L
open Go.RowKit Go.Proofs.Ytjfkompfkgjdaaa.PC Go.Proofs.YtjfkompfkgjdaaaW.PrintWords Go.Proofs.YtjfkompfkgjdaaaW.PrintLast Go.Proofs.Ytjfkompfkgjdaaa.G
theorem Ev.det {α : Type} {g : Nat → Option α} {r s : α} (h : Ev g r) (k : Ev g s) : r = s := by
  obtain ⟨K, h⟩ := h
  obtain ⟨L, k⟩ := k
  have a := h (max K L) (Nat.le_max_left ..)
  have b := k (max K L) (Nat.le_max_right ..)
  rw [a] at b
  exact Option.some.inj b
theorem dia_ref {n : Nat} {l : List Int} (h : Dia n l) : Ev (fun k => pomaderef07_Diagram.f k l) 0 := by
  have hl := h.lm.len
  have hn := h.lim
  refine dia_even h.pos hn hl (dia_l0_miss (by omega) (fun y hy => h.lm.good (by omega)) (dia_l1_miss (by omega) h.lm (crs_nc.1 h.nc) (2 * n) 0 (by omega)) l.length 0 (by omega))
theorem dia_yes {n : Nat} {l : List Int} (h : Dia n l) : Ev (fun k => plait_of.f k l) 0 ∧ Ev (fun k => pomaderef07_Diagram.f k l) 0 ∧ Ev (fun k => plait_diagram_arches.f k l) (strOfNums (brk n l), true) := by
  obtain ⟨e, h1, h2, h3⟩ := dia_both l
  have e0 := Ev.det h2 (dia_ref h)
  subst e0
  rcases h3 with c | c | ⟨_, m, d, h3⟩
  · omega
  · omega
  · obtain rfl := h.two d
    exact ⟨h1, h2, h3⟩
theorem dia_of {l : List Int} (h : Ev (fun k => pomaderef07_Diagram.f k l) 0) : ∃ n, Dia n l := by
  obtain ⟨e, h1, h2, h3⟩ := dia_both l
  have e0 := Ev.det h2 h
  subst e0
  rcases h3 with c | c | ⟨_, m, d, h3⟩
  · omega
  · omega
  · exact ⟨m, d⟩
theorem product_yes {n : Nat} {a b : List Int} (ha : Dia n a) (hb : Dia n b) : Ev (fun k => plait_Product.f k a b) (prodL n a b, (lops n (fn a) (fn b) : Int), 0) := by
  obtain ⟨e1, e2, _, d1, _, d2, h⟩ := product_plait a b
  have z1 := Ev.det d1 (dia_ref ha)
  have z2 := Ev.det d2 (dia_ref hb)
  have l1 := ha.lm.len
  have l2 := hb.lm.len
  rcases h with ⟨_, _, _, m, d, _, h⟩ | ⟨h, _⟩
  · obtain rfl := ha.two d
    exact h
  · exact absurd ⟨z1, z2, by omega⟩ h
theorem nc_iff {n : Nat} {l : List Int} : NCD (2 * n) (Db n l) ↔ NCf n (fn l) := crs_nc
theorem ncf_congr {n : Nat} {a b : Nat → Nat} (h : ∀ z, z < 2 * n → a z = b z) (hb : NCf n b) : NCf n a := by
  intro i k hi hk
  rw [h i hi, h k hk]
  exact hb i k hi hk
theorem dia_prod {n : Nat} {a b : List Int} (ha : Dia n a) (hb : Dia n b) : Dia n (prodL n a b) :=
  ⟨ha.pos, ha.lim, prodL_lm ha.lm hb.lm, nc_iff.2 (ncf_congr (fun z hz => prodL_fn hz) (prod_nc ha.lm.mat hb.lm.mat (nc_iff.1 ha.nc) (nc_iff.1 hb.nc)))⟩
/-! ### the product depends on the points of the matchings alone -/
theorem jn_congr {n : Nat} {a a' b b' : Nat → Nat} (ha : ∀ z, z < 2 * n → a z = a' z) (hb : ∀ z, z < 2 * n → b z = b' z) : jn n a b = jn n a' b' := by
  funext z
  unfold jn
  by_cases c : z < 2 * n
  · rw [if_pos c, if_pos c, ha z c]
  · rw [if_neg c, if_neg c]
    by_cases d : z < 4 * n
    · rw [if_pos d, if_pos d, hb _ (by omega)]
    · rw [if_neg d, if_neg d]
theorem prod_congr {n : Nat} {a a' b b' : Nat → Nat} (ha : ∀ z, z < 2 * n → a z = a' z) (hb : ∀ z, z < 2 * n → b z = b' z) : prod n a b = prod n a' b' ∧ lops n a b = lops n a' b' := by
  unfold prod lops
  rw [jn_congr ha hb]
  exact ⟨rfl, rfl⟩
theorem lm_eq {n : Nat} {a b : List Int} (ha : LM n a) (hb : LM n b) (h : ∀ z, z < 2 * n → fn a z = fn b z) : a = b :=
  list_eq (by rw [ha.len, hb.len]) (fun z hz => by have := ha.len; rw [ha.nn z (by omega), hb.nn z (by omega), h z (by omega)])
theorem prodL_assoc {n : Nat} {a b c : List Int} (ha : LM n a) (hb : LM n b) (hc : LM n c) : prodL n (prodL n a b) c = prodL n a (prodL n b c) ∧
    lops n (fn (prodL n a b)) (fn c) + lops n (fn a) (fn b) = lops n (fn a) (fn (prodL n b c)) + lops n (fn b) (fn c) := by
  have h := assoc ha.mat hb.mat hc.mat
  have e1 := prod_congr (n := n) (a := fn (prodL n a b)) (a' := prod n (fn a) (fn b)) (b := fn c) (b' := fn c) (fun z hz => prodL_fn hz) (fun _ _ => rfl)
  have e2 := prod_congr (n := n) (a := fn a) (a' := fn a) (b := fn (prodL n b c)) (b' := prod n (fn b) (fn c)) (fun _ _ => rfl) (fun z hz => prodL_fn hz)
  refine ⟨lm_eq (prodL_lm (prodL_lm ha hb) hc) (prodL_lm ha (prodL_lm hb hc)) (fun z hz => ?_), ?_⟩
  · rw [prodL_fn hz, prodL_fn hz, e1.1, e2.1]; exact h.1 z hz
  · rw [e1.2, e2.2]; exact h.2
end Go.Proofs.Ytjfkompfkgjdaaa.L
end
section
namespace Go.Proofs.Ytjfkompfkgjdaaa.PC
open Go.RowKit Go.Proofs.YtjfkompfkgjdaaaW.PrintWords Go.Proofs.YtjfkompfkgjdaaaW.PrintLast Go.Proofs.YtjfkompfkgjdaaaW.PrintMore
attribute [local go_sem] max2_int min2_int max_two min_two max_three min_three max_four min_four   -- for this text's walks alone
set_option linter.unusedVariables false
set_option linter.unusedSimpArgs false
end Go.Proofs.Ytjfkompfkgjdaaa.PC
end
section
/- Closed curves: the trace of a product, and how many there can be: plain. -/
namespace Go.Proofs.Ytjfkompfkgjdaaa.G
/-! ### closed: every point with the one across -/
def ext (n : Nat) (d : Nat → Nat) (z : Nat) : Nat := if z < 2 * n then d z else z
theorem ext_lo {n : Nat} {d : Nat → Nat} {z : Nat} (h : z < 2 * n) : ext n d z = d z := by unfold ext; rw [if_pos h]
def acr (n : Nat) : List (Nat × Nat) := prs (fun i => i) (fun i => n + i) n
/-- how many closed curves -/
def cls (n : Nat) (d : Nat → Nat) : Nat := (glue (acr n) (ext n d)).2
theorem cntP_add (P : Nat → Prop) (m k : Nat) : cntP P (m + k) = cntP P m + cntP (fun i => P (m + i)) k := by
  induction k with
  | zero => rfl
  | succ k ih => rw [← Nat.add_assoc]; simp only [cntP]; rw [ih]; omega
/-- the trace: the curves of a product closed, with its loops, are those of both in a ring -/
theorem trace {n : Nat} {a b : Nat → Nat} (ha : Mat n a) (hb : Mat n b) : cls n (prod n a b) + lops n a b = cls n (prod n b a) + lops n b a := by
  have ring : ∀ {a b : Nat → Nat}, Mat n a → Mat n b → cls n (prod n a b) + lops n a b = (glue (mids n ++ prs (fun i => i) (fun i => 3 * n + i) n) (jn n a b)).2 := by
    intro a b ha hb
    have hp := prod_mat ha hb
    have hF : ∀ u v, u < 2 * n → v < 2 * n → emb n u = emb n v → u = v := fun u v _ _ e => by have := congrArg (une n) e; rwa [une_emb, une_emb] at this
    have h : Emb (2 * n) (emb n) (ext n (prod n a b)) (glue (mids n) (jn n a b)).1 := fun z hz => by
      rw [ext_lo hz]
      exact ⟨(hp z hz).1, (prod_emb ha hb hz).1.symm⟩
    have g := (glue_emb hF (acr n) h (fun p hp => by obtain ⟨i, hi, rfl⟩ := prs_mem hp; dsimp only; omega)).2
    have e : (acr n).map (fun p => (emb n p.1, emb n p.2)) = prs (fun i => i) (fun i => 3 * n + i) n := by
      unfold acr
      rw [prs_map]
      exact prs_congr n (fun i hi => by unfold emb; rw [if_pos hi, if_neg (by omega)]; omega)
    rw [e] at g
    rw [glue_app]
    show _ = _ + (glue (mids n) (jn n a b)).2
    rw [g]
    rfl
  rw [ring ha hb, ring hb ha]
  let S : Nat → Nat := fun z => if z < 2 * n then 2 * n + z else z - 2 * n
  have hS : ∀ u v, u < 4 * n → v < 4 * n → S u = S v → u = v := by
    intro u v hu hv e
    simp only [S] at e
    split at e <;> split at e <;> omega
  have eS : Emb (4 * n) S (jn n b a) (jn n a b) := fun z hz => ⟨jn_lt hb ha hz, by
    rcases @jn_cases n z with h | ⟨y, h, rfl⟩ | h
    · have := (hb z h).1
      simp only [S]; rw [jn_lo h, if_pos h, if_pos this, jn_hi h]
    · have := (ha y h).1
      simp only [S]; rw [jn_hi h, if_neg (by omega), if_neg (by omega), Nat.add_sub_cancel_left, Nat.add_sub_cancel_left, jn_lo h]
    · omega⟩
  have g := (glue_emb hS (mids n ++ prs (fun i => i) (fun i => 3 * n + i) n) eS (fun p hp => by
    rcases List.mem_append.1 hp with hp | hp
    · obtain ⟨i, hi, rfl⟩ := prs_mem hp; simp only [up, dn]; omega
    · obtain ⟨i, hi, rfl⟩ := prs_mem hp; dsimp only; omega)).2
  rw [← g, List.map_append]
  have e1 : (mids n).map (fun p => (S p.1, S p.2)) = prs (fun i => 3 * n + i) (fun i => i) n := by
    unfold mids
    rw [prs_map]
    exact prs_congr n (fun i hi => by simp only [S, up, dn]; rw [if_pos (by omega), if_neg (by omega)]; omega)
  have e2 : (prs (fun i => i) (fun i => 3 * n + i) n).map (fun p => (S p.1, S p.2)) = prs (dn n) (up n) n := by
    rw [prs_map]
    exact prs_congr n (fun i hi => by simp only [S, up, dn]; rw [if_pos (by omega), if_neg (by omega)]; omega)
  rw [e1, e2]
  have hi := jn_inv ha hb
  have okM := mids_ok ha hb
  have okO : OK (jn n a b) (prs (fun i => i) (fun i => 3 * n + i) n) := prs_ok n (fun i j _ _ => by omega) (fun i hi => ⟨(jn_alive ha hb).2 (by omega), (jn_alive ha hb).2 (by omega)⟩)
  have okMO : OK (jn n a b) (mids n ++ prs (fun i => i) (fun i => 3 * n + i) n) := okM.app okO (fun z h1 h2 => by
    have := mids_pts.1 h1
    obtain ⟨i, h, e⟩ := (pts_prs _ _ _ _).1 h2
    omega)
  obtain ⟨same, okOM⟩ := glue_perm (List.perm_append_comm (l₁ := mids n) (l₂ := prs (fun i => i) (fun i => 3 * n + i) n)) _ hi okMO
  rw [same, glue_app, glue_app]
  have f1 := prs_flip n _ hi okO
  rw [f1]
  have ok2 := glue_ok _ _ _ hi okOM
  have f2 := prs_flip n _ (glue_inv _ _ hi okO) ok2
  rw [f2]
  rfl
/-! ### halves -/
theorem cntP_mono {P Q : Nat → Prop} (N : Nat) (h : ∀ i, i < N → P i → Q i) : cntP P N ≤ cntP Q N := by
  induction N with
  | zero => exact Nat.le_refl _
  | succ N ih =>
    have := ih (fun i hi => h i (by omega))
    simp only [cntP]
    by_cases c : P N
    · rw [if_pos c, if_pos (h N (by omega) c)]; omega
    · rw [if_neg c]; omega
theorem cntP_eq {P Q : Nat → Prop} (N : Nat) (h : ∀ i, i < N → P i → Q i) (he : cntP P N = cntP Q N) : ∀ i, i < N → Q i → P i := by
  induction N with
  | zero => intro i hi; omega
  | succ N ih =>
    intro i hi hq
    have m := cntP_mono N (fun i hi => h i (by omega))
    simp only [cntP] at he
    by_cases c : P N
    · rw [if_pos c, if_pos (h N (by omega) c)] at he
      by_cases e : i = N
      · rw [e]; exact c
      · exact ih (fun i hi => h i (by omega)) (by omega) i (by omega) hq
    · by_cases d : Q N
      · rw [if_neg c, if_pos d] at he; omega
      · rw [if_neg c, if_neg d] at he
        by_cases e : i = N
        · subst e; exact absurd hq d
        · exact ih (fun i hi => h i (by omega)) (by omega) i (by omega) hq
open Classical in
theorem cntP_list (P : Nat → Prop) (N : Nat) : cntP P N = (List.range N).countP (fun i => decide (P i)) := by
  induction N with
  | zero => rfl
  | succ N ih =>
    rw [List.range_succ, List.countP_append, ← ih]
    simp only [cntP]
    by_cases c : P N <;> simp [c]
theorem cntP_perm {N : Nat} {A : Nat → Nat} (hA : PairN N A) (P : Nat → Prop) : cntP (fun i => P (A i)) N = cntP P N := by
  classical
  rw [cntP_list, cntP_list]
  have nd : ((List.range N).map A).Nodup := by
    unfold List.Nodup
    rw [List.pairwise_map]
    refine List.Pairwise.imp_of_mem (fun {a b} ha hb hne e => ?_) List.nodup_range
    have h1 := hA a (List.mem_range.1 ha)
    have h2 := hA b (List.mem_range.1 hb)
    exact hne (by rw [← h1.2.2, e, h2.2.2])
  have pm : ((List.range N).map A).Perm (List.range N) := (List.perm_ext_iff_of_nodup nd List.nodup_range).2 (fun x => by
    rw [List.mem_map, List.mem_range]
    constructor
    · rintro ⟨y, hy, rfl⟩; exact (hA y (List.mem_range.1 hy)).1
    · intro hx; exact ⟨A x, List.mem_range.2 (hA x hx).1, (hA x hx).2.2⟩)
  have := pm.countP_eq (fun i => decide (P i))
  rw [List.countP_map] at this
  rw [← this]
  congr 1
end Go.Proofs.Ytjfkompfkgjdaaa.G
end
section
/- Through strands, and diagrams turned: plain. -/
namespace Go.Proofs.Ytjfkompfkgjdaaa.G
/-! ### through strands -/
noncomputable def thr (n : Nat) (d : Nat → Nat) : Nat := cntP (fun i => n ≤ d i) n
theorem cntP_low {n : Nat} (Q : Nat → Prop) : cntP (fun z => z < n ∧ Q z) (2 * n) = cntP Q n := by
  rw [show 2 * n = n + n by omega, cntP_add, cntP_none (P := fun i => n + i < n ∧ Q (n + i)) n (fun i _ h => by omega), Nat.add_zero]
  exact cntP_congr n (fun i hi => ⟨fun h => h.2, fun h => ⟨hi, h⟩⟩)
theorem cntP_high {n : Nat} (Q : Nat → Prop) : cntP (fun z => n ≤ z ∧ Q z) (2 * n) = cntP (fun i => Q (n + i)) n := by
  rw [show 2 * n = n + n by omega, cntP_add, cntP_none (P := fun i => n ≤ i ∧ Q i) n (fun i _ h => by omega), Nat.zero_add]
  exact cntP_congr n (fun i hi => ⟨fun h => h.2, fun h => ⟨by omega, h⟩⟩)
theorem thr_low {n : Nat} {d : Nat → Nat} (hd : Mat n d) : thr n d = cntP (fun i => d (n + i) < n) n := by
  unfold thr
  rw [← cntP_low, ← cntP_high (fun z => d z < n), ← cntP_perm (N := 2 * n) hd (fun z => z < n ∧ n ≤ d z)]
  refine cntP_congr _ (fun z hz => ?_)
  have := (hd z hz).2.2
  rw [this]
  exact ⟨fun h => ⟨h.2, h.1⟩, fun h => ⟨h.2, h.1⟩⟩
theorem thr_prod {n : Nat} {a b : Nat → Nat} (ha : Mat n a) (hb : Mat n b) : thr n (prod n a b) ≤ thr n a ∧ thr n (prod n a b) ≤ thr n b := by
  constructor
  · refine cntP_mono n (fun i hi h => ?_)
    refine Classical.byContradiction fun c => ?_
    have e : jn n a b i = a i := jn_lo (by omega)
    have p := Path.out (σ := jn n a b) (l := mids n) i (by rw [e]; intro q; have := mids_pts.1 q; omega)
    rw [e] at p
    have := prod_path ha hb (p := i) (q := a i) (by omega) (by unfold emb; rw [if_pos hi]; exact p)
    unfold une at this
    rw [if_pos (by omega)] at this
    omega
  · rw [thr_low (prod_mat ha hb), thr_low hb]
    refine cntP_mono n (fun i hi h => ?_)
    refine Classical.byContradiction fun c => ?_
    have hlt := (hb (n + i) (by omega)).1
    have e : jn n a b (2 * n + (n + i)) = 2 * n + b (n + i) := jn_hi (by omega)
    have p := Path.out (σ := jn n a b) (l := mids n) (2 * n + (n + i)) (by rw [e]; intro q; have := mids_pts.1 q; omega)
    rw [e] at p
    have := prod_path ha hb (p := n + i) (q := 2 * n + b (n + i)) (by omega) (by unfold emb; rw [if_neg (by omega), show n + i + 2 * n = 2 * n + (n + i) by omega]; exact p)
    unfold une at this
    rw [if_neg (by omega)] at this
    omega
/-! ### turned -/
end Go.Proofs.Ytjfkompfkgjdaaa.G
end
section
/- What of a diagram stays in its products, and that brackets determine a diagram: plain. -/
namespace Go.Proofs.Ytjfkompfkgjdaaa.G
theorem upper_stay {n : Nat} {a b : Nat → Nat} (ha : Mat n a) (hb : Mat n b) {i : Nat} (hi : i < n) (c : a i < n) : prod n a b i = a i := by
  have e : jn n a b i = a i := jn_lo (by omega)
  have p := Path.out (σ := jn n a b) (l := mids n) i (by rw [e]; intro q; have := mids_pts.1 q; omega)
  rw [e] at p
  have := prod_path ha hb (p := i) (q := a i) (by omega) (by unfold emb; rw [if_pos hi]; exact p)
  unfold une at this
  rw [if_pos (by omega)] at this
  exact this.symm
theorem lower_stay {n : Nat} {a b : Nat → Nat} (ha : Mat n a) (hb : Mat n b) {i : Nat} (hi : i < n) (c : n ≤ b (n + i)) : prod n a b (n + i) = b (n + i) := by
  have hlt := (hb (n + i) (by omega)).1
  have e : jn n a b (2 * n + (n + i)) = 2 * n + b (n + i) := jn_hi (by omega)
  have p := Path.out (σ := jn n a b) (l := mids n) (2 * n + (n + i)) (by rw [e]; intro q; have := mids_pts.1 q; omega)
  rw [e] at p
  have := prod_path ha hb (p := n + i) (q := 2 * n + b (n + i)) (by omega) (by unfold emb; rw [if_neg (by omega), show n + i + 2 * n = 2 * n + (n + i) by omega]; exact p)
  unfold une at this
  rw [if_neg (by omega)] at this
  omega
/-- where a power has as many through strands as the one before, its sides are the same -/
theorem sides_stay {n : Nat} {a d p : Nat → Nat} (ha : Mat n a) (hd : Mat n d) (hp : Mat n p) (e1 : ∀ z, z < 2 * n → p z = prod n a d z) (e2 : ∀ z, z < 2 * n → p z = prod n d a z) (ht : thr n p = thr n a) :
    (∀ i, i < n → (a i < n → p i = a i) ∧ (n ≤ a i → n ≤ p i)) ∧ (∀ i, i < n → (n ≤ a (n + i) → p (n + i) = a (n + i)) ∧ (a (n + i) < n → p (n + i) < n)) := by
  have up : ∀ i, i < n → a i < n → p i = a i := fun i hi c => by rw [e1 i (by omega)]; exact upper_stay ha hd hi c
  have lo : ∀ i, i < n → n ≤ a (n + i) → p (n + i) = a (n + i) := fun i hi c => by rw [e2 (n + i) (by omega)]; exact lower_stay hd ha hi c
  refine ⟨fun i hi => ⟨up i hi, ?_⟩, fun i hi => ⟨lo i hi, ?_⟩⟩
  · exact cntP_eq (P := fun i => n ≤ p i) (Q := fun i => n ≤ a i) n (fun i hi c => Classical.byContradiction fun q => by
      have := up i hi (by omega); omega) ht i hi
  · rw [thr_low hp, thr_low ha] at ht
    exact cntP_eq (P := fun i => p (n + i) < n) (Q := fun i => a (n + i) < n) n (fun i hi c => Classical.byContradiction fun q => by
      have := lo i hi (by omega); omega) ht i hi
/-- the brackets tell which point each closing one closes -/
theorem close_det {N : Nat} {D E : Nat → Nat} (hD : PairN N D) (hE : PairN N E) (nD : NCD N D) (nE : NCD N E) (h : ∀ x, x < N → (D x < x ↔ E x < x)) (d : Nat) :
    ∀ (x : Nat) (st : List Nat), x + d = N → Stay N D x st → Stay N E x st → ∀ y, x ≤ y → y < N → D y < y → D y = E y := by
  induction d with
  | zero => intro x st hx _ _ y h1 h2; omega
  | succ d ih =>
    intro x st hx s1 s2 y h1 h2 hy
    have hh := h x (by omega)
    rcases open_step hD nD (by omega : x < N) s1 with ⟨c, st', e, g⟩ | ⟨c, _, g⟩
    · rcases open_step hE nE (by omega : x < N) s2 with ⟨c', st2, e', g'⟩ | ⟨c', _, g'⟩
      · rw [e] at e'
        injection e' with q1 q2
        subst q2
        by_cases z : y = x
        · rw [z]; exact q1
        · exact ih (x + 1) st' (by omega) g g' y (by omega) h2 hy
      · omega
    · rcases open_step hE nE (by omega : x < N) s2 with ⟨c', st2, e', g'⟩ | ⟨c', _, g'⟩
      · omega
      · by_cases z : y = x
        · subst z; omega
        · exact ih (x + 1) _ (by omega) g g' y (by omega) h2 hy
theorem brackets_det {N : Nat} {D E : Nat → Nat} (hD : PairN N D) (hE : PairN N E) (nD : NCD N D) (nE : NCD N E) (h : ∀ x, x < N → (D x < x ↔ E x < x)) : ∀ x, x < N → D x = E x := by
  have s0 : ∀ D, Stay N D 0 [] := fun D => ⟨trivial, fun z => ⟨fun hz => (by cases hz), fun hz => (by omega)⟩⟩
  have cl := close_det hD hE nD nE h N 0 [] (by omega) (s0 D) (s0 E)
  intro x hx
  have d1 := hD x hx
  by_cases c : D x < x
  · exact cl x (by omega) hx c
  · have q := cl (D x) (by omega) d1.1 (by rw [d1.2.2]; omega)
    rw [d1.2.2] at q
    have := (hE (D x) d1.1).2.2
    rw [← q] at this
    exact this.symm
end Go.Proofs.Ytjfkompfkgjdaaa.G
end
section
namespace Go.Proofs.Ytjfkompfkgjdaaa.PC
open Go.RowKit Go.Proofs.YtjfkompfkgjdaaaW.PrintWords Go.Proofs.YtjfkompfkgjdaaaW.PrintLast Go.Proofs.YtjfkompfkgjdaaaW.PrintMore
attribute [local go_sem] max2_int min2_int max_two min_two max_three min_three max_four min_four   -- for this text's walks alone
set_option linter.unusedVariables false
set_option linter.unusedSimpArgs false
end Go.Proofs.Ytjfkompfkgjdaaa.PC
end
section
namespace Go.Proofs.Ytjfkompfkgjdaaa.PC
open Go.RowKit Go.Proofs.YtjfkompfkgjdaaaW.PrintWords Go.Proofs.YtjfkompfkgjdaaaW.PrintLast Go.Proofs.YtjfkompfkgjdaaaW.PrintMore
attribute [local go_sem] max2_int min2_int max_two min_two max_three min_three max_four min_four   -- for this text's walks alone
set_option linter.unusedVariables false
set_option linter.unusedSimpArgs false
end Go.Proofs.Ytjfkompfkgjdaaa.PC
end
section
/- The powers of a diagram, by the program and by the specification. -/
namespace Go.Proofs.Ytjfkompfkgjdaaa.L
open Go.RowKit Go.Proofs.Ytjfkompfkgjdaaa.PC Go.Proofs.YtjfkompfkgjdaaaW.PrintWords Go.Proofs.YtjfkompfkgjdaaaW.PrintLast Go.Proofs.Ytjfkompfkgjdaaa.G
/-! ### the same numbers -/
theorem eq_l0 {a b : List Int} (ha : a.length ≤ 1000000) (hl : a.length = b.length) (d : Nat) : ∀ i : Nat, i + d = a.length → (∀ z : Nat, z < i → rd a (z : Int) = rd b (z : Int)) →
    Ev (fun k => plait_diagram_int_69.l0 k a b (a.length : Int) (i : Int)) (decide (a = b)) := by
  induction d with
  | zero =>
    intro i hi h
    have e : a = b := list_eq hl (fun z hz => h z (by omega))
    refine Ev.step (f := fun _ => some (decide (a = b))) (fun k => ?_) (Ev.now _)
    simp only [plait_diagram_int_69.l0]
    rw [if_neg (by omega), decide_eq_true e]
  | succ d ih =>
    intro i hi h
    by_cases c : rd a (i : Int) = rd b (i : Int)
    · refine Ev.step (fun k => ?_) (ih (i + 1) (by omega) (fun z hz => by
        by_cases q : z = i
        · subst q; exact c
        · exact h z (by omega)))
      simp only [plait_diagram_int_69.l0]
      rw [if_pos (by omega), if_pos (by omega), if_pos (by omega), if_pos (by omega), if_pos c, pw64 (by omega) (by omega)]
      rfl
    · have e : a ≠ b := fun e => c (by rw [e])
      refine Ev.step (f := fun _ => some (decide (a = b))) (fun k => ?_) (Ev.now _)
      simp only [plait_diagram_int_69.l0]
      rw [if_pos (by omega), if_pos (by omega), if_pos (by omega), if_pos (by omega), if_neg c, decide_eq_false e]
theorem eq_ev {a b : List Int} (ha : a.length ≤ 1000000) (hl : a.length = b.length) : Ev (fun k => plait_diagram_int_69.f k a b) (decide (a = b)) := by
  refine Ev.congr (fun k => ?_) (eq_l0 ha hl a.length 0 (by omega) (fun z hz => by omega))
  unfold plait_diagram_int_69.f
  rw [if_pos (by omega)]
  rfl
/-! ### powers -/
def pwr (n : Nat) (d : List Int) : Nat → List Int
  | 0 => d
  | k + 1 => prodL n (pwr n d k) d
theorem pwr_dia {n : Nat} {d : List Int} (h : Dia n d) : ∀ k, Dia n (pwr n d k)
  | 0 => h
  | k + 1 => dia_prod (pwr_dia h k) h
theorem pwr_comm {n : Nat} {d : List Int} (h : Dia n d) : ∀ k, prodL n (pwr n d k) d = prodL n d (pwr n d k)
  | 0 => rfl
  | k + 1 => by
    show prodL n (prodL n (pwr n d k) d) d = prodL n d (prodL n (pwr n d k) d)
    rw [← (prodL_assoc h.lm (pwr_dia h k).lm h.lm).1, pwr_comm h k]
theorem dia_brk {n : Nat} {a b : List Int} (ha : Dia n a) (hb : Dia n b) (h : ∀ x, x < 2 * n → (Db n a x < x ↔ Db n b x < x)) : a = b := by
  refine lm_eq ha.lm hb.lm (fun z hz => ?_)
  have := brackets_det (db_pair ha.lm) (db_pair hb.lm) ha.nc hb.nc h (L.bo n z) (L.bo_lt hz)
  unfold Db at this
  rw [L.bo_bo hz] at this
  exact L.bo_inj (ha.lm.mat z hz).1 (hb.lm.mat z hz).1 this
theorem pwr_fall {n : Nat} {d : List Int} (h : Dia n d) (k : Nat) : thr n (fn (pwr n d (k + 1))) ≤ thr n (fn (pwr n d k)) ∧ (thr n (fn (pwr n d (k + 1))) = thr n (fn (pwr n d k)) → pwr n d (k + 1) = pwr n d k) := by
  have ha := pwr_dia h k
  have hp := pwr_dia h (k + 1)
  have e1 : ∀ z, z < 2 * n → fn (pwr n d (k + 1)) z = prod n (fn (pwr n d k)) (fn d) z := fun z hz => prodL_fn hz
  have e2 : ∀ z, z < 2 * n → fn (pwr n d (k + 1)) z = prod n (fn d) (fn (pwr n d k)) z := fun z hz => by
    show fn (prodL n (pwr n d k) d) z = _
    rw [pwr_comm h k]; exact prodL_fn hz
  constructor
  · have := (thr_prod ha.lm.mat h.lm.mat).1
    have q : thr n (fn (pwr n d (k + 1))) = thr n (prod n (fn (pwr n d k)) (fn d)) := cntP_congr _ (fun i hi => by rw [e1 i (by omega)])
    omega
  · intro ht
    obtain ⟨u, l⟩ := sides_stay ha.lm.mat h.lm.mat hp.lm.mat e1 e2 ht
    refine dia_brk hp ha (fun x hx => ?_)
    have r1 := (hp.lm.mat (L.bo n x) (L.bo_lt hx)).1
    have r2 := (ha.lm.mat (L.bo n x) (L.bo_lt hx)).1
    unfold Db
    by_cases c : x < n
    · have eb : L.bo n x = x := by unfold L.bo; rw [if_pos c]
      rw [eb] at r1 r2 ⊢
      by_cases q : fn (pwr n d k) x < n
      · rw [(u x c).1 q]
      · have := (u x c).2 (by omega)
        unfold L.bo
        rw [if_neg (by omega), if_neg (by omega)]
        omega
    · have eb : L.bo n x = n + (2 * n - 1 - x) := by unfold L.bo; rw [if_neg c]; omega
      rw [eb] at r1 r2 ⊢
      by_cases q : fn (pwr n d k) (n + (2 * n - 1 - x)) < n
      · have := (l (2 * n - 1 - x) (by omega)).2 q
        unfold L.bo
        rw [if_pos (by omega), if_pos (by omega)]
        omega
      · rw [(l (2 * n - 1 - x) (by omega)).1 (by omega)]
theorem pwr_low {n : Nat} {d : List Int} (h : Dia n d) (m : Nat) : (∀ k, k < m → pwr n d (k + 1) ≠ pwr n d k) → thr n (fn (pwr n d m)) + m ≤ n := by
  induction m with
  | zero => intro _; exact cntP_le _ _
  | succ m ih =>
    intro hk
    have i := ih (fun k hk' => hk k (by omega))
    have f := pwr_fall h m
    have := hk m (by omega)
    have : thr n (fn (pwr n d (m + 1))) ≠ thr n (fn (pwr n d m)) := fun e => this (f.2 e)
    omega
theorem least_of (P : Nat → Prop) : ∀ (N : Nat), P N → ∃ m, m ≤ N ∧ P m ∧ ∀ k, k < m → ¬ P k := by
  intro N
  induction N using Nat.strongRecOn with
  | ind N ih =>
    intro h
    by_cases c : ∃ k, k < N ∧ P k
    · obtain ⟨k, hk, p⟩ := c
      obtain ⟨m, h1, h2, h3⟩ := ih k hk p
      exact ⟨m, by omega, h2, h3⟩
    · exact ⟨N, Nat.le_refl _, h, fun k hk p => c ⟨k, hk, p⟩⟩
/-- the first power that was there before -/
theorem pwr_rep {n : Nat} {d : List Int} (h : Dia n d) : ∃ M I, M ≤ n + 1 ∧ I < M ∧ pwr n d I = pwr n d M ∧ (∀ b, b < I → pwr n d b ≠ pwr n d M) ∧ (∀ a b, a < M → b < a → pwr n d b ≠ pwr n d a) := by
  have ex : ∃ k, k ≤ n ∧ pwr n d (k + 1) = pwr n d k := by
    refine Classical.byContradiction fun c => ?_
    have := pwr_low h (n + 1) (fun k hk e => c ⟨k, by omega, e⟩)
    omega
  obtain ⟨k, hk, e⟩ := ex
  obtain ⟨M, h1, ⟨J, hJ, eJ⟩, h3⟩ := least_of (fun M => ∃ b, b < M ∧ pwr n d b = pwr n d M) (k + 1) ⟨k, by omega, e.symm⟩
  obtain ⟨I, i1, i2, i3⟩ := least_of (fun b => pwr n d b = pwr n d M) J eJ
  exact ⟨M, I, by omega, by omega, i2, i3, fun a b ha hb q => h3 a ha ⟨b, hb, q⟩⟩
def pws (n : Nat) (d : List Int) (m : Nat) : List (List Int) := (List.range m).map (pwr n d)
theorem pws_len (n : Nat) (d : List Int) (m : Nat) : (pws n d m).length = m := by simp [pws]
theorem pws_rd {n : Nat} {d : List Int} {m i : Nat} (h : i < m) : rd_L3 (pws n d m) (i : Int) = pwr n d i := by
  unfold rd_L3 pws
  rw [Int.toNat_natCast]
  simp [List.getD, h]
theorem pws_succ (n : Nat) (d : List Int) (m : Nat) : pws n d m ++ [pwr n d m] = pws n d (m + 1) := by
  unfold pws
  rw [List.range_succ, List.map_append]; rfl
end Go.Proofs.Ytjfkompfkgjdaaa.L
end
section
/- What the program and the specification say of a string as an arch system. -/
namespace Go.Proofs.Ytjfkompfkgjdaaa.L
open Go.RowKit Go.Proofs.Ytjfkompfkgjdaaa.PC Go.Proofs.YtjfkompfkgjdaaaW.PrintWords Go.Proofs.YtjfkompfkgjdaaaW.PrintLast
theorem sys_ev (s : ByteArray) (b : Bool) (o : List Int) (h : Ev (fun k => pomaderef07_partners.f k s) (o, b)) : Ev (fun k => pomaderef07_System.f k s) (if s.size > 24 then 3 else if b = true then 0 else 5) := by
  by_cases c : s.size > 24
  · rw [if_pos c]
    exact Ev.congr (fun k => by unfold pomaderef07_System.f; rw [if_pos (by omega)]) (Ev.now _)
  · rw [if_neg c]
    refine Ev.congr (fun k => by unfold pomaderef07_System.f; rw [if_neg (by omega)]) (Ev.bind h ?_)
    by_cases d : b = true
    · simp only [d, if_true]; exact Ev.now _
    · simp only [d]; exact Ev.now _
/-- what partners and System say of a string -/
theorem part_sys (s : ByteArray) (hs : s.size ≤ 1000) : ∃ (e : Int) (p o : List Int) (b : Bool), Ev (fun k => plait_partners.f k s) (p, e) ∧ Ev (fun k => pomaderef07_System.f k s) e ∧ Ev (fun k => pomaderef07_partners.f k s) (o, b) ∧ (e = 0 → Arch s o ∧ p = o) := by
  rcases partners_both s hs with ⟨o, hA, h1, h2⟩ | ⟨o, h1, h2⟩
  · have h3 := sys_ev s true o h2
    by_cases c : s.size > 24
    · rw [if_pos c] at h1 h3
      exact ⟨3, _, _, _, h1, h3, h2, fun h => by omega⟩
    · rw [if_neg c] at h1 h3
      rw [if_pos rfl] at h3
      exact ⟨0, _, _, _, h1, h3, h2, fun _ => ⟨hA, rfl⟩⟩
  · have h3 := sys_ev s false o h2
    by_cases c : s.size > 24
    · rw [if_pos c] at h1 h3
      exact ⟨3, _, _, _, h1, h3, h2, fun h => by omega⟩
    · rw [if_neg c] at h1 h3
      rw [if_neg (by decide)] at h3
      exact ⟨5, _, _, _, h1, h3, h2, fun h => by omega⟩
end Go.Proofs.Ytjfkompfkgjdaaa.L
end
section
namespace Go.Proofs.Ytjfkompfkgjdaaa.PC
open Go.RowKit Go.Proofs.YtjfkompfkgjdaaaW.PrintWords Go.Proofs.YtjfkompfkgjdaaaW.PrintLast Go.Proofs.YtjfkompfkgjdaaaW.PrintMore
attribute [local go_sem] max2_int min2_int max_two min_two max_three min_three max_four min_four   -- for this text's walks alone
set_option linter.unusedVariables false
set_option linter.unusedSimpArgs false
end Go.Proofs.Ytjfkompfkgjdaaa.PC
end
section
namespace Go.Proofs.Ytjfkompfkgjdaaa.PC
open Go.RowKit Go.Proofs.YtjfkompfkgjdaaaW.PrintWords Go.Proofs.YtjfkompfkgjdaaaW.PrintLast Go.Proofs.YtjfkompfkgjdaaaW.PrintMore
attribute [local go_sem] max2_int min2_int max_two min_two max_three min_three max_four min_four   -- for this text's walks alone
set_option linter.unusedVariables false
set_option linter.unusedSimpArgs false
end Go.Proofs.Ytjfkompfkgjdaaa.PC
end
section
/- Bend and Arches, by the program and by the specification. -/
namespace Go.Proofs.Ytjfkompfkgjdaaa.L
open Go.RowKit Go.Proofs.Ytjfkompfkgjdaaa.PC Go.Proofs.YtjfkompfkgjdaaaW.PrintWords Go.Proofs.YtjfkompfkgjdaaaW.PrintLast Go.Proofs.Ytjfkompfkgjdaaa.G
/-- the partners of an arch system, as a diagram -/
def bendL (n : Nat) (o : List Int) : List Int := (List.range (2 * n)).map (fun z => (bo n (fn o (bo n z)) : Int))
theorem bendL_len (n : Nat) (o : List Int) : (bendL n o).length = 2 * n := by simp [bendL]
theorem bendL_rd {n z : Nat} {o : List Int} (h : z < 2 * n) : rd (bendL n o) (z : Int) = (bo n (fn o (bo n z)) : Int) := rd_range _ _ _ h
theorem brk_rd {n x : Nat} {l : List Int} (h : x < 2 * n) : rd (brk n l) (x : Int) = if Db n l x < x then 41 else 40 := rd_range _ _ _ h
theorem brk_len (n : Nat) (l : List Int) : (brk n l).length = 2 * n := by simp [brk]
end Go.Proofs.Ytjfkompfkgjdaaa.L
end
section
/- The numbers of closed curves that the program counts: of a diagram, and of two arch systems. -/
namespace Go.Proofs.Ytjfkompfkgjdaaa.L
open Go.RowKit Go.Proofs.Ytjfkompfkgjdaaa.PC Go.Proofs.YtjfkompfkgjdaaaW.PrintWords Go.Proofs.YtjfkompfkgjdaaaW.PrintLast Go.Proofs.Ytjfkompfkgjdaaa.G
/-- a list that pairs the points below N -/
structure PL (N : Nat) (o : List Int) : Prop where
  len : o.length = N
  nn : ∀ z : Nat, z < N → rd o (z : Int) = (fn o z : Int)
  pair : PairN N (fn o)
theorem LM.pl {n : Nat} {l : List Int} (h : LM n l) : PL (2 * n) l := ⟨h.len, h.nn, h.mat⟩
/-! ### two arch systems -/
/-! ### a diagram, closed -/
/-! ### an arch system and its partners -/
structure Half (s : ByteArray) (q : Nat) (out op : List Int) : Prop where
  len : out.length = s.size
  srt : op.Pairwise (· < ·)
  opn : ∀ x ∈ op, 0 ≤ x ∧ x < (q : Int) ∧ bt s x = 40
  shut : ∀ j : Nat, j < q → (j : Int) ∉ op → ∃ m : Nat, m < q ∧ rd out (j : Int) = (m : Int) ∧ (m : Int) ∉ op ∧ rd out (m : Int) = (j : Int) ∧ m ≠ j ∧ (bt s (j : Int) = 40 ↔ j < m)
theorem half_run (s : ByteArray) (d : Nat) : ∀ (q : Nat) (out op : List Int) (r : List Int × List Int), q + d = s.size → Half s q out op → partL s d q out op = some r → Half s s.size r.1 r.2 := by
  induction d with
  | zero =>
    intro q out op r hq h hr
    simp only [partL] at hr
    obtain rfl := Option.some.inj hr
    obtain rfl : q = s.size := by omega
    exact h
  | succ d ih =>
    intro q out op r hq h hr
    simp only [partL] at hr
    by_cases c1 : bt s (q : Int) = 40
    · rw [if_pos c1] at hr
      refine ih (q + 1) _ _ r (by omega) ⟨h.len, ?_, fun x hx => ?_, fun j hj hn => ?_⟩ hr
      · rw [List.pairwise_append]
        exact ⟨h.srt, List.pairwise_singleton .., fun x hx y hy => by simp at hy; have := h.opn x hx; omega⟩
      · rcases List.mem_append.1 hx with hx | hx
        · have := h.opn x hx; exact ⟨this.1, by omega, this.2.2⟩
        · simp at hx; subst hx; exact ⟨by omega, by omega, c1⟩
      · simp only [List.mem_append, not_or] at hn
        have ne : j ≠ q := fun e => hn.2 (by rw [e]; simp)
        obtain ⟨m, a, b, c, e⟩ := h.shut j (by omega) hn.1
        refine ⟨m, by omega, b, fun hm => ?_, e⟩
        rcases List.mem_append.1 hm with hm | hm
        · exact c hm
        · simp at hm; omega
    · rw [if_neg c1] at hr
      by_cases c2 : bt s (q : Int) = 41
      · rw [if_pos c2] at hr
        by_cases c3 : op.length = 0
        · rw [if_pos c3] at hr; cases hr
        · rw [if_neg c3] at hr
          have hl := h.opn _ (rd_last c3)
          obtain ⟨k, hk⟩ : ∃ k : Nat, rd op ((op.length : Int) - 1) = (k : Int) := ⟨(rd op ((op.length : Int) - 1)).toNat, by omega⟩
          rw [hk] at hr hl
          rw [Int.toNat_natCast] at hr
          have eop : op = op.take (op.length - 1) ++ [(k : Int)] := by
            have e1 := List.take_append_drop (op.length - 1) op
            have e2 : op.drop (op.length - 1) = [op[op.length - 1]'(by omega)] := by
              rw [List.drop_eq_getElem_cons (by omega), List.drop_of_length_le (by omega)]
            have e3 : op[op.length - 1]'(by omega) = (k : Int) := by
              rw [← hk]
              have et : ((op.length : Int) - 1).toNat = op.length - 1 := by omega
              simp [rd, List.getD_eq_getElem?_getD, et, show op.length - 1 < op.length by omega]
            rw [e2, e3] at e1
            exact e1.symm
          have hs := h.srt
          rw [eop, List.pairwise_append] at hs
          have hlt : ∀ x ∈ op.take (op.length - 1), x < (k : Int) := fun x hx => hs.2.2 x hx _ (by simp)
          have hkq : k < q := by omega
          have lo : k < (out.set q (k : Int)).length := by simp; have := h.len; omega
          have v : ∀ j : Nat, rd ((out.set q (k : Int)).set k (q : Int)) (j : Int) = if j = k then (q : Int) else if j = q then (k : Int) else rd out (j : Int) := fun j => by
            have := h.len
            rw [rd_set _ _ _ _ lo, rd_set _ _ _ _ (by omega)]
          refine ih (q + 1) _ _ r (by omega) ⟨by simpa using h.len, hs.1, fun x hx => ?_, fun j hj hn => ?_⟩ hr
          · have := h.opn x (List.mem_of_mem_take hx); exact ⟨this.1, by omega, this.2.2⟩
          · have nk : (k : Int) ∉ op.take (op.length - 1) := fun hx => by have := hlt _ hx; omega
            have nq : (q : Int) ∉ op.take (op.length - 1) := fun hx => by have := hlt _ hx; omega
            by_cases e1 : j = k
            · subst e1
              exact ⟨q, by omega, by rw [v, if_pos rfl], nq, by rw [v, if_neg (by omega), if_pos rfl], by omega, fun _ => hkq, fun _ => hl.2.2⟩
            · by_cases e2 : j = q
              · subst e2
                exact ⟨k, by omega, by rw [v, if_neg e1, if_pos rfl], nk, by rw [v, if_pos rfl], by omega, fun h => absurd h c1, fun h => by omega⟩
              · have nj : (j : Int) ∉ op := fun hx => by
                  rw [eop] at hx
                  rcases List.mem_append.1 hx with hx | hx
                  · exact hn hx
                  · simp at hx; omega
                obtain ⟨m, a, b, c, e, f⟩ := h.shut j (by omega) nj
                have mk : m ≠ k := fun e => c (by rw [e, eop]; simp)
                exact ⟨m, by omega, by rw [v, if_neg e1, if_neg e2]; exact b, fun hx => c (List.mem_of_mem_take hx), by rw [v, if_neg mk, if_neg (by omega)]; exact e, f⟩
      · rw [if_neg c2] at hr; cases hr
theorem arch_pair {s : ByteArray} (hs : s.size ≤ 1000) {o : List Int} (h : Ev (fun k => pomaderef07_partners.f k s) (o, true)) : PL s.size o ∧ ∀ j : Nat, j < s.size → (bt s (j : Int) = 40 ↔ j < fn o j) := by
  have hp := part_loop s hs s.size 0 _ _ (by omega) (inv_start s)
  have e2 : ∀ r, Ev (fun k => pomaderef07_partners.l0 k s (List.replicate s.size 0) [] ((0 : Nat) : Int)) r → Ev (fun k => pomaderef07_partners.f k s) r := fun r hr =>
    Ev.congr (fun k => by unfold pomaderef07_partners.f; rw [if_pos (by omega), if_pos (by omega)]; rfl) hr
  cases hr : partL s s.size 0 (List.replicate s.size 0) [] with
  | none =>
    rw [hr] at hp
    have := Ev.det h (e2 _ hp.2)
    exact absurd (show true = false from congrArg Prod.snd this) (by decide)
  | some r =>
    rw [hr] at hp
    have e := Ev.det h (e2 _ hp.2.1)
    have e1 : o = r.1 := congrArg Prod.fst e
    have e3 : decide (r.2.length = 0 ∧ s.size ≠ 0) = true := (congrArg Prod.snd e).symm
    have e4 := of_decide_eq_true e3
    have hh := half_run s s.size 0 _ _ r (by omega) ⟨by simp, List.Pairwise.nil, fun x hx => (by cases hx), fun j hj => by omega⟩ hr
    have emp : r.2 = [] := List.length_eq_zero_iff.1 e4.1
    have sh := hh.shut
    rw [emp, ← e1] at sh
    have key : ∀ j : Nat, j < s.size → ∃ m : Nat, m < s.size ∧ rd o (j : Int) = (m : Int) ∧ rd o (m : Int) = (j : Int) ∧ m ≠ j ∧ (bt s (j : Int) = 40 ↔ j < m) := fun j hj => by
      obtain ⟨m, a, b, _, c, d, e⟩ := sh j hj (by simp)
      exact ⟨m, a, b, c, d, e⟩
    have fm : ∀ j m : Nat, rd o (j : Int) = (m : Int) → fn o j = m := fun j m e => by
      show (rd o (j : Int)).toNat = m
      rw [e, Int.toNat_natCast]
    refine ⟨⟨by rw [e1]; exact hh.len, fun z hz => ?_, fun z hz => ?_⟩, fun j hj => ?_⟩
    · obtain ⟨m, a, b, _⟩ := key z hz; rw [b, fm z m b]
    · obtain ⟨m, a, b, c, d, e⟩ := key z hz
      rw [fm z m b, fm m z c]
      exact ⟨a, d, rfl⟩
    · obtain ⟨m, a, b, c, d, e⟩ := key j hj
      rw [fm j m b]; exact e
end Go.Proofs.Ytjfkompfkgjdaaa.L
end
section
/- Arches of Bend, and Bend of Arches. -/
namespace Go.Proofs.Ytjfkompfkgjdaaa.L
open Go.RowKit Go.Proofs.Ytjfkompfkgjdaaa.PC Go.Proofs.YtjfkompfkgjdaaaW.PrintWords Go.Proofs.YtjfkompfkgjdaaaW.PrintLast Go.Proofs.Ytjfkompfkgjdaaa.G
theorem bt_nums {xs : List Int} (h : ∀ x ∈ xs, 0 ≤ x ∧ x < 256) {i : Nat} (hi : i < xs.length) : bt (strOfNums xs) (i : Int) = rd xs (i : Int) := by
  have hs : i < (strOfNums xs).size := by rw [strOfNums_size]; exact hi
  have r := h _ (List.getElem_mem hi)
  rw [← bt_at (strOfNums xs) (i : Int) (by rw [Int.toNat_natCast]; exact hs)]
  have e : (strOfNums xs)[i]'hs = UInt8.ofNat (xs[i]'hi).toNat := by
    show (strOfNums xs).data[i]'hs = _
    simp [strOfNums]
  have e2 : rd xs (i : Int) = xs[i]'hi := by
    unfold rd
    rw [Int.toNat_natCast, List.getD_eq_getElem?_getD, List.getElem?_eq_getElem hi]; rfl
  show ((((strOfNums xs)[i]'hs).toNat : Nat) : Int) = _
  rw [e, e2, UInt8.toNat_ofNat']
  omega
def stk (st : List Nat) : List Int := (st.map (fun y : Nat => (y : Int))).reverse
theorem stk_cons (y : Nat) (st : List Nat) : stk (y :: st) = stk st ++ [(y : Int)] := by simp [stk]
theorem stk_top (y : Nat) (st : List Nat) : rd (stk (y :: st)) (((stk (y :: st)).length : Int) - 1) = (y : Int) := by
  rw [stk_cons]
  have e : (((stk st ++ [(y : Int)]).length : Int) - 1).toNat = (stk st).length := by simp
  unfold rd
  rw [e]
  simp
theorem stk_pop (y : Nat) (st : List Nat) : (stk (y :: st)).take ((stk (y :: st)).length - 1) = stk st := by
  rw [stk_cons]; simp
/-- what the pile does at one byte, of a pairing whose brackets these are -/
theorem part_run {s : ByteArray} {N : Nat} (hN : s.size = N) {D : Nat → Nat} (hD : PairN N D) (hn : NCD N D) (hb : ∀ x : Nat, x < N → bt s (x : Int) = if D x < x then 41 else 40) (d : Nat) :
    ∀ (q : Nat) (out : List Int) (st : List Nat), q + d = N → Stay N D q st → ∃ out', partL s d q out (stk st) = some (out', []) := by
  induction d with
  | zero =>
    intro q out st hq h
    cases st with
    | nil => exact ⟨out, rfl⟩
    | cons y st =>
      have := (h.2 y).1 List.mem_cons_self
      have := (hD y (by omega)).1
      omega
  | succ d ih =>
    intro q out st hq h
    have hbq := hb q (by omega)
    rcases open_step hD hn (by omega : q < N) h with ⟨c, st', rfl, g⟩ | ⟨c, _, g⟩
    · rw [if_pos c] at hbq
      simp only [partL]
      rw [hbq, if_neg (by decide), if_pos rfl, if_neg (by rw [stk_cons]; simp), stk_pop]
      exact ih (q + 1) _ st' (by omega) g
    · rw [if_neg (by omega)] at hbq
      simp only [partL]
      rw [hbq, if_pos rfl, ← stk_cons]
      exact ih (q + 1) _ _ (by omega) g
/-- the partners of two shut points stay -/
theorem part_keep (s : ByteArray) (d : Nat) : ∀ (q : Nat) (out : List Int) (st : List Nat) (r : List Int × List Int), q + d = s.size → out.length = s.size → (∀ y, y ∈ st → y < q) → st.Pairwise (fun a b => b < a) → partL s d q out (stk st) = some r → ∀ j, j < q → j ∉ st → rd r.1 (j : Int) = rd out (j : Int) := by
  induction d with
  | zero =>
    intro q out st r hq hl hs hp hr j hj hn
    simp only [partL] at hr
    obtain rfl := Option.some.inj hr
    rfl
  | succ d ih =>
    intro q out st r hq hl hs hp hr j hj hn
    simp only [partL] at hr
    by_cases c1 : bt s (q : Int) = 40
    · rw [if_pos c1, ← stk_cons] at hr
      refine ih (q + 1) out (q :: st) r (by omega) hl (fun y hy => ?_) (List.pairwise_cons.2 ⟨fun y hy => hs y hy, hp⟩) hr j (by omega) (fun hm => ?_)
      · rcases List.mem_cons.1 hy with rfl | hy
        · omega
        · have := hs y hy; omega
      · rcases List.mem_cons.1 hm with rfl | hm
        · omega
        · exact hn hm
    · rw [if_neg c1] at hr
      by_cases c2 : bt s (q : Int) = 41
      · rw [if_pos c2] at hr
        cases st with
        | nil => rw [if_pos (by rfl)] at hr; cases hr
        | cons y st =>
          have hy := hs y List.mem_cons_self
          have ne : j ≠ y := fun e => hn (by rw [e]; exact List.mem_cons_self)
          rw [if_neg (by rw [stk_cons]; simp), stk_pop, stk_top, Int.toNat_natCast] at hr
          have hp2 := List.pairwise_cons.1 hp
          have := ih (q + 1) ((out.set q (y : Int)).set y (q : Int)) st r (by omega) (by simpa using hl) (fun z hz => by have := hs z (List.mem_cons_of_mem _ hz); omega) hp2.2 hr j (by omega) (fun hm => hn (List.mem_cons_of_mem _ hm))
          rw [this, rd_set _ _ _ _ (by simp; omega), if_neg ne, rd_set _ _ _ _ (by omega), if_neg (by omega)]
      · rw [if_neg c2] at hr; cases hr
/-- the pile of the partners finds exactly them -/
theorem part_nc {s : ByteArray} {o : List Int} (hb : ∀ j : Nat, j < s.size → (bt s (j : Int) = 40 ↔ j < fn o j)) (d : Nat) : ∀ (q : Nat) (out : List Int) (st : List Nat), q + d = s.size → out.length = s.size → (∀ y, y ∈ st → y < q) → st.Pairwise (fun a b => b < a) → partL s d q out (stk st) = some (o, []) → run (fn o) d q st = [] := by
  induction d with
  | zero =>
    intro q out st hq hl hs hp hr
    simp only [partL] at hr
    have e := congrArg Prod.snd (Option.some.inj hr)
    cases st with
    | nil => rfl
    | cons y st => rw [stk_cons] at e; simp at e
  | succ d ih =>
    intro q out st hq hl hs hp hr
    have hr0 := hr
    simp only [partL] at hr
    by_cases c1 : bt s (q : Int) = 40
    · rw [if_pos c1, ← stk_cons] at hr
      have hlt := (hb q (by omega)).1 c1
      have i := ih (q + 1) out (q :: st) (by omega) hl (fun y hy => by
        rcases List.mem_cons.1 hy with rfl | hy
        · omega
        · have := hs y hy; omega) (List.pairwise_cons.2 ⟨fun y hy => hs y hy, hp⟩) hr
      cases st with
      | nil => exact i
      | cons y st =>
        have hy := hs y List.mem_cons_self
        simp only [run]
        rw [if_neg (by omega)]
        exact i
    · rw [if_neg c1] at hr
      by_cases c2 : bt s (q : Int) = 41
      · rw [if_pos c2] at hr
        cases st with
        | nil => rw [if_pos (by rfl)] at hr; cases hr
        | cons y st =>
          have hy := hs y List.mem_cons_self
          rw [if_neg (by rw [stk_cons]; simp), stk_pop, stk_top, Int.toNat_natCast] at hr
          have hp2 := List.pairwise_cons.1 hp
          have hs2 : ∀ z, z ∈ st → z < q + 1 := fun z hz => by have := hs z (List.mem_cons_of_mem _ hz); omega
          have k := part_keep s d (q + 1) _ st _ (by omega) (by simpa using hl) hs2 hp2.2 hr q (by omega) (fun hm => by have := hs q (List.mem_cons_of_mem _ hm); omega)
          rw [rd_set _ _ _ _ (by simp; omega), if_neg (by omega), rd_set _ _ _ _ (by omega), if_pos rfl] at k
          have e : y = fn o q := by
            show y = (rd o (q : Int)).toNat
            rw [k, Int.toNat_natCast]
          simp only [run]
          rw [if_pos e]
          exact ih (q + 1) _ st (by omega) (by simpa using hl) hs2 hp2.2 hr
      · rw [if_neg c2] at hr; cases hr
/-- the partners of an arch system do not cross -/
theorem arch_ncd {s : ByteArray} (hs : s.size ≤ 1000) {o : List Int} (h : Ev (fun k => pomaderef07_partners.f k s) (o, true)) : NCD s.size (fn o) := by
  obtain ⟨hp, hb⟩ := arch_pair hs h
  have hl := part_loop s hs s.size 0 _ _ (by omega) (inv_start s)
  have e2 : ∀ r, Ev (fun k => pomaderef07_partners.l0 k s (List.replicate s.size 0) [] ((0 : Nat) : Int)) r → Ev (fun k => pomaderef07_partners.f k s) r := fun r hr =>
    Ev.congr (fun k => by unfold pomaderef07_partners.f; rw [if_pos (by omega), if_pos (by omega)]; rfl) hr
  cases hr : partL s s.size 0 (List.replicate s.size 0) [] with
  | none =>
    rw [hr] at hl
    have := Ev.det h (e2 _ hl.2)
    exact absurd (show true = false from congrArg Prod.snd this) (by decide)
  | some r =>
    rw [hr] at hl
    have e := Ev.det h (e2 _ hl.2.1)
    have e1 : o = r.1 := congrArg Prod.fst e
    have e4 := of_decide_eq_true (congrArg Prod.snd e).symm
    have emp : r.2 = [] := List.length_eq_zero_iff.1 e4.1
    refine (run_iff hp.pair).1 (part_nc hb s.size 0 (List.replicate s.size 0) [] (by omega) (by simp) (fun y hy => by cases hy) List.Pairwise.nil ?_)
    rw [show stk [] = [] from rfl, hr, e1, ← emp]
/-- a string that the program reads -/
theorem part_true {s : ByteArray} (hs : s.size ≤ 24) {o : List Int} (h : Ev (fun k => plait_partners.f k s) (o, 0)) : Ev (fun k => pomaderef07_partners.f k s) (o, true) := by
  rcases partners_both s (by omega) with ⟨o', _, g1, g2⟩ | ⟨o', g1, _⟩
  · rw [if_neg (by omega)] at g1
    have := congrArg Prod.fst (Ev.det h g1)
    rw [show o = o' from this]; exact g2
  · rw [if_neg (by omega)] at g1
    exact absurd (show (0 : Int) = 5 from congrArg Prod.snd (Ev.det h g1)) (by decide)
theorem db_bend {n : Nat} {o : List Int} (hp : PairN (2 * n) (fn o)) {x : Nat} (hx : x < 2 * n) : Db n (bendL n o) x = fn o x := by
  have hb := L.bo_lt hx
  unfold Db
  have e : fn (bendL n o) (L.bo n x) = L.bo n (fn o (L.bo n (L.bo n x))) := by
    show (rd (bendL n o) ((L.bo n x : Nat) : Int)).toNat = _
    rw [bendL_rd hb, Int.toNat_natCast]
  rw [e, L.bo_bo hx, L.bo_bo (hp x hx).1]
theorem bend_dia {n : Nat} (h0 : 0 < n) (h1 : n ≤ 10) {s : ByteArray} (hs : s.size = 2 * n) {o : List Int} (h : Ev (fun k => pomaderef07_partners.f k s) (o, true)) : Dia n (bendL n o) ∧ strOfNums (brk n (bendL n o)) = s := by
  obtain ⟨hp, hb⟩ := arch_pair (by omega) h
  have nc := arch_ncd (by omega) h
  have hA : Arch s o := by
    rcases partners_both s (by omega) with ⟨o', hA, _, g2⟩ | ⟨o', _, g2⟩
    · have := congrArg Prod.fst (Ev.det h g2)
      rw [show o = o' from this]; exact hA
    · exact absurd (show true = false from congrArg Prod.snd (Ev.det h g2)) (by decide)
  have pp := hp.pair
  rw [hs] at pp nc hb
  have mt : Mat n (fun z => L.bo n (fn o (L.bo n z))) := fun z hz => by
    have b := L.bo_lt hz
    have p := pp _ b
    refine ⟨L.bo_lt p.1, fun e => p.2.1 ?_, ?_⟩
    · have := congrArg (L.bo n) e
      rwa [L.bo_bo p.1] at this
    · show L.bo n (fn o (L.bo n (L.bo n (fn o (L.bo n z))))) = z
      rw [L.bo_bo p.1, p.2.2, L.bo_bo hz]
  have lm := (lm_of_fun (bendL_len n o) (fun z hz => bendL_rd hz) mt).1
  refine ⟨⟨h0, h1, lm, fun a c ha hc => ?_⟩, ?_⟩
  · rw [db_bend pp ha, db_bend pp hc]; exact nc a c ha hc
  · have l1 : (strOfNums (brk n (bendL n o))).size = 2 * n := by rw [strOfNums_size, brk_len]
    have rg : ∀ x ∈ brk n (bendL n o), 0 ≤ x ∧ x < 256 := fun x hx => by
      obtain ⟨z, _, rfl⟩ := List.mem_map.1 hx
      split <;> omega
    have hbt : ∀ j : Nat, j < 2 * n → bt (strOfNums (brk n (bendL n o))) (j : Int) = bt s (j : Int) := fun j hj => by
      rw [bt_nums rg (by rw [brk_len]; exact hj), brk_rd hj, db_bend pp hj]
      have a := hb j hj
      have b := hA.br j (by omega)
      have c := (pp j hj).2.1
      by_cases q : fn o j < j
      · rw [if_pos q]; omega
      · rw [if_neg q]; omega
    refine ByteArray.ext (Array.ext' ?_)
    refine List.ext_getElem ?_ (fun i h1 h2 => ?_)
    · rw [Array.length_toList, Array.length_toList]; show (strOfNums (brk n (bendL n o))).size = s.size; omega
    · have i1 : i < (strOfNums (brk n (bendL n o))).size := by simpa using h1
      have i2 : i < s.size := by simpa using h2
      have e := hbt i (by omega)
      rw [← bt_at _ (i : Int) (by rw [Int.toNat_natCast]; exact i1), ← bt_at s (i : Int) (by rw [Int.toNat_natCast]; exact i2)] at e
      have e : ((((strOfNums (brk n (bendL n o)))[i]'i1).toNat : Nat) : Int) = ((s[i]'i2).toNat : Int) := e
      have e2 : (strOfNums (brk n (bendL n o)))[i]'i1 = s[i]'i2 := UInt8.toNat_inj.1 (by omega)
      exact e2
theorem bendP_l0 {n : Nat} (hn : n ≤ 1000) {o : List Int} (ho : o.length = 2 * n) (hr : ∀ x ∈ o, 0 ≤ x ∧ x < ((2 * n : Nat) : Int)) (d : Nat) : ∀ (i : Nat) (out : List Int), i + d = 2 * n → out.length = 2 * n → (∀ j, j < i → rd out (L.bo n j : Int) = (L.bo n (fn o j) : Int)) →
    Ev (fun k => plait_Bend.l0 k out (bl n) o ((2 * n : Nat) : Int) (i : Int)) (bendL n o, 0) := by
  have hbl := bl_len n
  induction d with
  | zero =>
    intro i out hi hl hj
    obtain rfl : i = 2 * n := by omega
    have e : out = bendL n o := by
      refine list_eq (by rw [bendL_len, hl]) (fun z hz => ?_)
      have hz2 : z < 2 * n := by omega
      have := hj (L.bo n z) (L.bo_lt hz2)
      rw [L.bo_bo hz2] at this
      rw [this, bendL_rd hz2]
    refine Ev.step (f := fun _ => some (bendL n o, 0)) (fun k => ?_) (Ev.now _)
    simp only [plait_Bend.l0]; rw [if_neg (by omega), e]
  | succ d ih =>
    intro i out hi hl hj
    have e1 : wrap64 ((i : Int) + 1) = ((i + 1 : Nat) : Int) := by rw [pw64 (by omega) (by omega)]; rfl
    have hi2 : i < 2 * n := by omega
    have hb := L.bo_lt hi2
    have g := rd_rng ho hr (i : Int) (by omega) (by omega)
    have q : rd o (i : Int) = (fn o i : Int) := by unfold fn; omega
    have q2 : fn o i < 2 * n := by omega
    have g1 := ih (i + 1) (out.set (L.bo n i) (L.bo n (fn o i) : Int)) (by omega) (by simpa using hl) (fun j hj2 => by
      rw [rd_set _ _ _ _ (by omega)]
      by_cases c : j = i
      · subst c; rw [if_pos rfl]
      · rw [if_neg (fun e => c (L.bo_inj (by omega) hi2 e))]
        exact hj j (by omega))
    refine Ev.step (fun k => ?_) g1
    simp only [plait_Bend.l0]
    rw [if_pos (by omega), if_pos (by omega), if_pos (by omega), if_pos (by omega), if_pos (by omega), if_pos (by omega), bl_rd hi2, if_pos (by omega), if_pos (by omega), q, bl_rd q2, e1, Int.toNat_natCast]
/-- Bend, where the string is an arch system of its size -/
theorem bend_yes {n : Nat} (h0 : 1 ≤ n) (h1 : n ≤ 10) {s : ByteArray} {o : List Int} (hA : o.length = 2 * n) (hr : ∀ x ∈ o, 0 ≤ x ∧ x < ((2 * n : Nat) : Int)) (h : Ev (fun k => plait_partners.f k s) (o, 0)) : Ev (fun k => plait_Bend.f k (n : Int) s) (bendL n o, 0) := by
  have e2 : wrap64 (2 * (n : Int)) = ((2 * n : Nat) : Int) := by rw [pw64 (by omega) (by omega)]; omega
  have g1 := bendP_l0 (n := n) (by omega) hA hr (2 * n) 0 (List.replicate (2 * n) 0) (by omega) (by simp) (fun j hj => by omega)
  refine Ev.congr (f := fun k => plait_Bend.j0 k (n : Int) s false) (fun k => ?_) (Ev.step (f := fun k => (plait_partners.f k s).bind fun bt476 => (if bt476.2 = 0 then (if (bt476.1.length : Int) = (wrap64 (2 * (n : Int))) then (if 0 ≤ (wrap64 (2 * (n : Int))) then (if (wrap64 (2 * (n : Int)) : Int).toNat ≤ 35184372088832 then ((plait_border.f k (n : Int)).bind fun t483 => (plait_Bend.l0 k (List.replicate (wrap64 (2 * (n : Int)) : Int).toNat 0) t483 bt476.1 (bt476.1.length : Int) 0)) else (none)) else (none)) else (some (([] : List Int), 2))) else (some (([] : List Int), bt476.2)))) (fun k => ?_) ?_)
  · unfold plait_Bend.f; rw [if_neg (by omega), decide_eq_false (by omega)]
  · simp only [plait_Bend.j0]; rw [if_neg (by decide)]
  · refine Ev.bind h ?_
    refine Ev.congr (f := fun k => (plait_border.f k (n : Int)).bind fun t483 => (plait_Bend.l0 k (List.replicate (2 * n) 0) t483 o ((2 * n : Nat) : Int) 0)) (fun k => ?_) (Ev.bind (border_ev (by omega)) g1)
    rw [if_pos rfl, e2, if_pos (show (o.length : Int) = ((2 * n : Nat) : Int) by omega), if_pos (by omega), Int.toNat_natCast, if_pos (by omega), show (o.length : Int) = ((2 * n : Nat) : Int) by omega]
/-- Bend of the brackets of a diagram -/
theorem dia_bend {n : Nat} {l : List Int} (h : Dia n l) : Ev (fun k => plait_Bend.f k (n : Int) (strOfNums (brk n l))) (l, 0) := by
  have hn := h.lim
  have h0 := h.pos
  have l1 : (strOfNums (brk n l)).size = 2 * n := by rw [strOfNums_size, brk_len]
  have rg : ∀ x ∈ brk n l, 0 ≤ x ∧ x < 256 := fun x hx => by
    obtain ⟨z, _, rfl⟩ := List.mem_map.1 hx
    split <;> omega
  have hD := db_pair h.lm
  have hb : ∀ x : Nat, x < 2 * n → bt (strOfNums (brk n l)) (x : Int) = if Db n l x < x then 41 else 40 := fun x hx => by
    rw [bt_nums rg (by rw [brk_len]; exact hx), brk_rd hx]
  obtain ⟨o, ho⟩ := part_run l1 hD h.nc hb (2 * n) 0 (List.replicate (2 * n) 0) [] (by omega) ⟨trivial, fun z => ⟨fun hz => (by cases hz), fun hz => (by omega)⟩⟩
  have hl := part_loop (strOfNums (brk n l)) (by omega) (strOfNums (brk n l)).size 0 _ _ (by omega) (inv_start _)
  have e2 : ∀ r, Ev (fun k => pomaderef07_partners.l0 k (strOfNums (brk n l)) (List.replicate (strOfNums (brk n l)).size 0) [] ((0 : Nat) : Int)) r → Ev (fun k => pomaderef07_partners.f k (strOfNums (brk n l))) r := fun r hr =>
    Ev.congr (fun k => by unfold pomaderef07_partners.f; rw [if_pos (by omega), if_pos (by omega)]; rfl) hr
  have ho' : partL (strOfNums (brk n l)) (strOfNums (brk n l)).size 0 (List.replicate (strOfNums (brk n l)).size 0) [] = some (o, []) := by rw [l1]; exact ho
  rw [ho'] at hl
  have ht := e2 _ hl.2.1
  rw [decide_eq_true (show ([] : List Int).length = 0 ∧ (strOfNums (brk n l)).size ≠ 0 from ⟨rfl, by omega⟩)] at ht
  have hp : Ev (fun k => plait_partners.f k (strOfNums (brk n l))) (o, 0) ∧ Arch (strOfNums (brk n l)) o := by
    rcases partners_both (strOfNums (brk n l)) (by omega) with ⟨o', hA, g1, g2⟩ | ⟨o', _, g2⟩
    · rw [if_neg (by omega)] at g1
      have := congrArg Prod.fst (Ev.det ht g2)
      rw [show o = o' from this]; exact ⟨g1, hA⟩
    · exact absurd (show true = false from congrArg Prod.snd (Ev.det ht g2)) (by decide)
  have nc := arch_ncd (by omega) ht
  obtain ⟨pp, hbr⟩ := arch_pair (by omega) ht
  have pr := pp.pair
  rw [l1] at pr nc hbr
  have hr := hp.2.rng
  rw [l1] at hr
  have ey := bend_yes (by omega) hn (by rw [hp.2.len, l1]) hr hp.1
  have same := brackets_det hD pr h.nc nc (fun x hx => by
    have a := hbr x hx
    have b := hb x hx
    have c := (pr x hx).2.1
    have d := (hD x hx).2.1
    by_cases q : Db n l x < x
    · rw [if_pos q] at b; omega
    · rw [if_neg q] at b; omega)
  have e : bendL n o = l := by
    refine list_eq (by rw [bendL_len, h.lm.len]) (fun z hz => ?_)
    rw [bendL_len] at hz
    have bz := L.bo_lt hz
    rw [bendL_rd hz, ← same _ bz, h.lm.nn z hz]
    unfold Db
    rw [L.bo_bo hz, L.bo_bo (h.lm.mat z hz).1]
  rw [e] at ey
  exact ey
theorem is_yes {n : Nat} {l : List Int} (h : Dia n l) : Ev (fun k => plait_Is.f k l) (true, 0) :=
  Ev.congr (fun k => rfl) (Ev.bind (dia_yes h).1 (Ev.congr (f := fun _ => some (true, 0)) (fun k => by rw [if_neg (by decide)]; rfl) (Ev.now _)))
theorem arches_yes {n : Nat} {l : List Int} (h : Dia n l) : Ev (fun k => plait_Arches.f k l) (strOfNums (brk n l), 0) := by
  obtain ⟨y1, _, y3⟩ := dia_yes h
  exact Ev.congr (fun k => rfl) (Ev.bind y1 (Ev.congr (fun k => by rw [if_pos rfl]) (Ev.bind y3 (Ev.now _))))
end Go.Proofs.Ytjfkompfkgjdaaa.L
end
section
/- The powers of a diagram, by the program alone. -/
namespace Go.Proofs.Ytjfkompfkgjdaaa.L
open Go.RowKit Go.Proofs.Ytjfkompfkgjdaaa.PC Go.Proofs.YtjfkompfkgjdaaaW.PrintWords Go.Proofs.YtjfkompfkgjdaaaW.PrintLast Go.Proofs.Ytjfkompfkgjdaaa.G
theorem powerP_hit {n : Nat} {d : List Int} (h : Dia n d) {M I : Nat} (hM : M ≤ 1000) (hI : I < M) (e : pwr n d I = pwr n d M) (ne : ∀ b, b < I → pwr n d b ≠ pwr n d M) (c : Nat) : ∀ i, i + c = I →
    Ev (fun k => plait_Power.l1 k d (pws n d M) (pwr n d M) (M : Int) (i : Int)) (((I + 1 : Nat) : Int), ((M + 1 : Nat) : Int), 0) := by
  induction c with
  | zero =>
    intro i hi
    obtain rfl : i = I := by omega
    have hl := (pwr_dia h i).lm.len
    have hl2 := (pwr_dia h M).lm.len
    have hn := h.lim
    refine Ev.step (f := fun k => (plait_diagram_int_69.f k (rd_L3 (pws n d M) (i : Int)) (pwr n d M)).bind fun t634 => (if t634 = true then (some (wrap64 ((i : Int) + 1), wrap64 (((pws n d M).length : Int) + 1), 0)) else (plait_Power.l1 k d (pws n d M) (pwr n d M) (M : Int) (wrap64 ((i : Int) + 1))))) (fun k => ?_) ?_
    · simp only [plait_Power.l1]
      rw [if_pos (by omega), if_pos (by omega), if_pos (by rw [pws_len]; omega)]
    · rw [pws_rd hI]
      refine Ev.bind (eq_ev (by omega) (by omega)) ?_
      refine Ev.congr (f := fun _ => some (((i + 1 : Nat) : Int), ((M + 1 : Nat) : Int), 0)) (fun k => ?_) (Ev.now _)
      rw [if_pos (decide_eq_true e), pws_len, pw64 (by omega) (by omega), pw64 (by omega) (by omega)]
      rfl
  | succ c ih =>
    intro i hi
    have hl := (pwr_dia h i).lm.len
    have hl2 := (pwr_dia h M).lm.len
    have hn := h.lim
    have q := ih (i + 1) (by omega)
    have nn := ne i (by omega)
    refine Ev.step (f := fun k => (plait_diagram_int_69.f k (rd_L3 (pws n d M) (i : Int)) (pwr n d M)).bind fun t634 => (if t634 = true then (some (wrap64 ((i : Int) + 1), wrap64 (((pws n d M).length : Int) + 1), 0)) else (plait_Power.l1 k d (pws n d M) (pwr n d M) (M : Int) (wrap64 ((i : Int) + 1))))) (fun k => ?_) ?_
    · simp only [plait_Power.l1]
      rw [if_pos (by omega), if_pos (by omega), if_pos (by rw [pws_len]; omega)]
    · rw [pws_rd (by omega)]
      refine Ev.bind (eq_ev (by omega) (by omega)) ?_
      refine Ev.congr (fun k => ?_) q
      rw [if_neg (by rw [decide_eq_false nn]; decide), pw64 (by omega) (by omega)]
      rfl
theorem powerP_miss {n : Nat} {d : List Int} (h : Dia n d) {m : Nat} (hM : m ≤ 1000) (ne : ∀ b, b < m → pwr n d b ≠ pwr n d m) {r : Int × Int × Int}
    (r1 : Ev (fun k => plait_Power.l0 k d (pws n d (m + 1))) r) (c : Nat) : ∀ i, i + c = m →
    Ev (fun k => plait_Power.l1 k d (pws n d m) (pwr n d m) (m : Int) (i : Int)) r := by
  induction c with
  | zero =>
    intro i hi
    refine Ev.step (fun k => ?_) r1
    simp only [plait_Power.l1]
    rw [if_neg (by omega), if_pos (by rw [pws_len]; omega), pws_succ]
  | succ c ih =>
    intro i hi
    have hl := (pwr_dia h i).lm.len
    have hl2 := (pwr_dia h m).lm.len
    have hn := h.lim
    have q := ih (i + 1) (by omega)
    have nn := ne i (by omega)
    refine Ev.step (f := fun k => (plait_diagram_int_69.f k (rd_L3 (pws n d m) (i : Int)) (pwr n d m)).bind fun t634 => (if t634 = true then (some (wrap64 ((i : Int) + 1), wrap64 (((pws n d m).length : Int) + 1), 0)) else (plait_Power.l1 k d (pws n d m) (pwr n d m) (m : Int) (wrap64 ((i : Int) + 1))))) (fun k => ?_) ?_
    · simp only [plait_Power.l1]
      rw [if_pos (by omega), if_pos (by omega), if_pos (by rw [pws_len]; omega)]
    · rw [pws_rd (by omega)]
      refine Ev.bind (eq_ev (by omega) (by omega)) ?_
      refine Ev.congr (fun k => ?_) q
      rw [if_neg (by rw [decide_eq_false nn]; decide), pw64 (by omega) (by omega)]
      rfl
theorem powerP_top {n : Nat} {d : List Int} (h : Dia n d) {m : Nat} (h1 : 1 ≤ m) (hM : m ≤ 1000) {r : Int × Int × Int}
    (r1 : Ev (fun k => plait_Power.l1 k d (pws n d m) (pwr n d m) (m : Int) ((0 : Nat) : Int)) r) :
    Ev (fun k => plait_Power.l0 k d (pws n d m)) r := by
  obtain ⟨m, rfl⟩ : ∃ q, m = q + 1 := ⟨m - 1, by omega⟩
  have hn := h.lim
  have e : wrap64 ((((pws n d (m + 1)).length : Nat) : Int) - 1) = (m : Int) := by rw [pws_len, pw64 (by omega) (by omega)]; omega
  refine Ev.step (fun k => ?_) r1
  simp only [plait_Power.l0]
  rw [e, if_pos (by omega), if_pos (by rw [pws_len]; omega), pws_rd (by omega), product_ok (by omega) (pwr_dia h m).lm h.lm, Option.bind_some, pws_len]
  rfl
theorem powerP_run {n : Nat} {d : List Int} (h : Dia n d) {M I : Nat} (hM : M ≤ 1000) (hI : I < M) (e : pwr n d I = pwr n d M) (ne : ∀ b, b < I → pwr n d b ≠ pwr n d M) (na : ∀ a b, a < M → b < a → pwr n d b ≠ pwr n d a) (c : Nat) : ∀ m, 1 ≤ m → m + c = M →
    Ev (fun k => plait_Power.l0 k d (pws n d m)) (((I + 1 : Nat) : Int), ((M + 1 : Nat) : Int), 0) := by
  induction c with
  | zero =>
    intro m h1 hm
    obtain rfl : m = M := by omega
    have := powerP_hit h hM hI e ne I 0 (by omega)
    exact powerP_top h h1 hM this
  | succ c ih =>
    intro m h1 hm
    have i := ih (m + 1) (by omega) (by omega)
    have := powerP_miss h (by omega) (fun b hb => na m b (by omega) hb) i m 0 (by omega)
    exact powerP_top h h1 (by omega) this
theorem powerP_dia {n : Nat} {d : List Int} (h : Dia n d) : ∃ M I, M ≤ n + 1 ∧ I < M ∧ pwr n d I = pwr n d M ∧ (∀ b, b < I → pwr n d b ≠ pwr n d M) ∧ (∀ a b, a < M → b < a → pwr n d b ≠ pwr n d a) ∧
    Ev (fun k => plait_Power.f k d) (((I + 1 : Nat) : Int), ((M + 1 : Nat) : Int), 0) := by
  obtain ⟨M, I, h1, h2, h3, h4, h5⟩ := pwr_rep h
  have hn := h.lim
  have r := powerP_run h (by omega) h2 h3 h4 h5 (M - 1) 1 (by omega) (by omega)
  obtain ⟨y1, y2, _⟩ := dia_yes h
  exact ⟨M, I, h1, h2, h3, h4, h5, Ev.congr (fun k => rfl) (Ev.bind y1 (Ev.congr (fun k => by rw [if_pos rfl]; rfl) r))⟩
/-- Bend by the program alone: where it tells no error -/
theorem bend_plait (a0 : Int) (s : ByteArray) (hs : s.size ≤ 1000) : ∃ r : List Int × Int, Ev (fun k => plait_Bend.f k a0 s) r ∧ (r.2 = 0 → ∃ (n : Nat) (o : List Int), 1 ≤ n ∧ n ≤ 10 ∧ s.size = 2 * n ∧ r.1 = bendL n o ∧ Ev (fun k => plait_partners.f k s) (o, 0)) := by
  by_cases c1 : a0 < 1 ∨ a0 > 10
  · refine ⟨([], 2), Ev.congr (f := fun k => plait_Bend.j0 k a0 s true) (fun k => ?_) (Ev.step (f := fun _ => some ([], 2)) (fun k => ?_) (Ev.now _)), fun h => absurd h (by decide)⟩
    · unfold plait_Bend.f
      by_cases c : a0 < 1
      · rw [if_pos c]
      · rw [if_neg c, decide_eq_true (by omega)]
    · simp only [plait_Bend.j0]; rw [if_pos trivial]
  · obtain ⟨n, rfl⟩ : ∃ n : Nat, a0 = (n : Int) := ⟨a0.toNat, by omega⟩
    have e2 : wrap64 (2 * (n : Int)) = ((2 * n : Nat) : Int) := by rw [pw64 (by omega) (by omega)]; omega
    obtain ⟨e, p, o, b, h1, h2, h3, h4⟩ := part_sys s hs
    have sp : ∀ r, Ev (fun k => (plait_partners.f k s).bind fun bt476 => (if bt476.2 = 0 then (if (bt476.1.length : Int) = (wrap64 (2 * (n : Int))) then (if 0 ≤ (wrap64 (2 * (n : Int))) then (if (wrap64 (2 * (n : Int)) : Int).toNat ≤ 35184372088832 then ((plait_border.f k (n : Int)).bind fun t483 => (plait_Bend.l0 k (List.replicate (wrap64 (2 * (n : Int)) : Int).toNat 0) t483 bt476.1 (bt476.1.length : Int) 0)) else (none)) else (none)) else (some (([] : List Int), 2))) else (some (([] : List Int), bt476.2)))) r → Ev (fun k => plait_Bend.f k (n : Int) s) r := fun r hr => by
      refine Ev.congr (f := fun k => plait_Bend.j0 k (n : Int) s false) (fun k => ?_) (Ev.step (fun k => ?_) hr)
      · unfold plait_Bend.f; rw [if_neg (by omega), decide_eq_false (by omega)]
      · simp only [plait_Bend.j0]; rw [if_neg (by decide)]
    by_cases z : e = 0
    · subst z
      obtain ⟨hA, rfl⟩ := h4 rfl
      have hl := hA.len
      by_cases c : s.size = 2 * n
      · exact ⟨(bendL n p, 0), bend_yes (by omega) (by omega) (by omega) (by rw [← c]; exact hA.rng) h1, fun _ => ⟨n, p, by omega, by omega, c, rfl, h1⟩⟩
      · refine ⟨([], 2), sp _ ?_, fun h => absurd h (by decide)⟩
        refine Ev.bind h1 ?_
        exact Ev.congr (fun k => by rw [if_pos rfl, e2, if_neg (show ¬ (p.length : Int) = ((2 * n : Nat) : Int) by omega)]) (Ev.now _)
    · refine ⟨([], e), sp _ ?_, fun h => absurd h z⟩
      refine Ev.bind h1 ?_
      exact Ev.congr (fun k => by rw [if_neg z]) (Ev.now _)
/-- Arches by the program alone -/
theorem arches_plait (l : List Int) : ∃ r : ByteArray × Int, Ev (fun k => plait_Arches.f k l) r ∧ ((r.2 = 0 ∧ ∃ n, Dia n l ∧ r.1 = strOfNums (brk n l)) ∨ (r.2 ≠ 0 ∧ r.1 = (⟨#[]⟩ : ByteArray))) := by
  obtain ⟨e, h1, h2, h3⟩ := dia_both l
  by_cases z : e = 0
  · subst z
    obtain ⟨n, d⟩ := dia_of h2
    exact ⟨_, arches_yes d, .inl ⟨rfl, n, d, rfl⟩⟩
  · exact ⟨((⟨#[]⟩ : ByteArray), e), Ev.congr (fun k => rfl) (Ev.bind h1 (Ev.congr (fun k => by rw [if_neg z]) (Ev.now _))), .inr ⟨z, rfl⟩⟩
end Go.Proofs.Ytjfkompfkgjdaaa.L
end
section
/- Plait: PlaitBent: Arches of Bend, Bend of Arches, and the powers of a diagram. -/
namespace Go.Proofs.Ytjfkompfkgjdaaa.L
open Go.RowKit Go.Proofs.Ytjfkompfkgjdaaa.PC Go.Proofs.YtjfkompfkgjdaaaW.PrintWords Go.Proofs.YtjfkompfkgjdaaaW.PrintLast Go.Proofs.Ytjfkompfkgjdaaa.G
theorem gsame_l0 {a b : List Int} (ha : a.length ≤ 1000000) (hl : a.length = b.length) (d : Nat) : ∀ i : Nat, i + d = a.length → (∀ z : Nat, z < i → rd a (z : Int) = rd b (z : Int)) →
    Ev (fun k => pomadelaw07_same.l0 k a b (i : Int)) (decide (a = b)) := by
  induction d with
  | zero =>
    intro i hi h
    have e : a = b := list_eq hl (fun z hz => h z (by omega))
    refine Ev.step (f := fun _ => some (decide (a = b))) (fun k => ?_) (Ev.now _)
    simp only [pomadelaw07_same.l0]
    rw [if_neg (by omega), decide_eq_true e]
  | succ d ih =>
    intro i hi h
    by_cases c : rd a (i : Int) = rd b (i : Int)
    · refine Ev.step (fun k => ?_) (ih (i + 1) (by omega) (fun z hz => by
        by_cases q : z = i
        · subst q; exact c
        · exact h z (by omega)))
      simp only [pomadelaw07_same.l0]
      rw [if_pos (by omega), if_pos (by omega), if_pos (by omega), if_pos c, pw64 (by omega) (by omega)]
      rfl
    · have e : a ≠ b := fun e => c (by rw [e])
      refine Ev.step (f := fun _ => some (decide (a = b))) (fun k => ?_) (Ev.now _)
      simp only [pomadelaw07_same.l0]
      rw [if_pos (by omega), if_pos (by omega), if_pos (by omega), if_neg c, decide_eq_false e]
theorem gsame_ev {a b : List Int} (ha : a.length ≤ 1000000) (hl : a.length = b.length) : Ev (fun k => pomadelaw07_same.f k a b) (decide (a = b)) := by
  refine Ev.congr (fun k => ?_) (gsame_l0 ha hl a.length 0 (by omega) (fun z hz => by omega))
  unfold pomadelaw07_same.f
  rw [if_pos (by omega)]
  rfl
section
variable {n : Nat} {d : List Int} {M I : Nat}
theorem bent_l2 (h : Dia n d) (hM : M ≤ 1000) (hI : I < M) (e : pwr n d I = pwr n d M) (na : ∀ a b, a < M → b < a → pwr n d b ≠ pwr n d a) {a : Nat} (ha : a ≤ M)
    (nx : Ev (fun k => pomadelaw07_PlaitBent.l1 k ((I + 1 : Nat) : Int) ((M + 1 : Nat) : Int) (pws n d (M + 1)) ((a + 1 : Nat) : Int)) true) (c : Nat) : ∀ b, b + c = a →
    Ev (fun k => pomadelaw07_PlaitBent.l2 k ((I + 1 : Nat) : Int) ((M + 1 : Nat) : Int) (pws n d (M + 1)) (a : Int) (b : Int)) true := by
  induction c with
  | zero =>
    intro b hb
    refine Ev.step (fun k => ?_) nx
    simp only [pomadelaw07_PlaitBent.l2]
    rw [if_neg (by omega), pw64 (by omega) (by omega)]
    rfl
  | succ c ih =>
    intro b hb
    have la := (pwr_dia h a).lm.len
    have lb := (pwr_dia h b).lm.len
    have hn := h.lim
    refine Ev.step (f := fun k => (pomadelaw07_same.f k (pwr n d a) (pwr n d b)).bind fun t923 => (if (a : Int) = (wrap64 (((M + 1 : Nat) : Int) - 1)) then (if (t923 != ((b : Int) == (wrap64 (((I + 1 : Nat) : Int) - 1)))) = true then (some false) else (pomadelaw07_PlaitBent.l2 k ((I + 1 : Nat) : Int) ((M + 1 : Nat) : Int) (pws n d (M + 1)) (a : Int) (wrap64 ((b : Int) + 1)))) else (if (t923 != false) = true then (some false) else (pomadelaw07_PlaitBent.l2 k ((I + 1 : Nat) : Int) ((M + 1 : Nat) : Int) (pws n d (M + 1)) (a : Int) (wrap64 ((b : Int) + 1)))))) (fun k => ?_) ?_
    · simp only [pomadelaw07_PlaitBent.l2]
      rw [if_pos (by omega), if_pos (by omega), if_pos (by rw [pws_len]; omega), if_pos (by omega), if_pos (by rw [pws_len]; omega), pws_rd (by omega), pws_rd (by omega)]
    · refine Ev.bind (gsame_ev (by omega) (by omega)) ?_
      refine Ev.congr (fun k => ?_) (ih (b + 1) (by omega))
      rw [pw64 (x := ((M + 1 : Nat) : Int) - 1) (by omega) (by omega), pw64 (x := ((I + 1 : Nat) : Int) - 1) (by omega) (by omega), pw64 (x := (b : Int) + 1) (by omega) (by omega)]
      by_cases q : a = M
      · subst q
        rw [if_pos (by omega)]
        by_cases z : b = I
        · subst z
          rw [decide_eq_true e.symm, beq_iff_eq.2 (show (b : Int) = ((b + 1 : Nat) : Int) - 1 by omega), if_neg (by decide)]
          rfl
        · have ne : pwr n d a ≠ pwr n d b := fun f => by
            rw [← e] at f
            by_cases w : b < I
            · exact na I b (by omega) w f.symm
            · exact na b I (by omega) (by omega) f
          rw [decide_eq_false ne, beq_eq_false_iff_ne.2 (show (b : Int) ≠ ((I + 1 : Nat) : Int) - 1 by omega), if_neg (by decide)]
          rfl
      · rw [if_neg (by omega), decide_eq_false (fun f => na a b (by omega) (by omega) f.symm), if_neg (by decide)]
        rfl
theorem bent_l1 (h : Dia n d) (hM : M ≤ 1000) (hI : I < M) (e : pwr n d I = pwr n d M) (na : ∀ a b, a < M → b < a → pwr n d b ≠ pwr n d a) (c : Nat) : ∀ a, a + c = M + 1 →
    Ev (fun k => pomadelaw07_PlaitBent.l1 k ((I + 1 : Nat) : Int) ((M + 1 : Nat) : Int) (pws n d (M + 1)) (a : Int)) true := by
  induction c with
  | zero =>
    intro a ha
    refine Ev.step (f := fun _ => some true) (fun k => ?_) (Ev.now _)
    simp only [pomadelaw07_PlaitBent.l1]
    rw [if_neg (by omega)]; rfl
  | succ c ih =>
    intro a ha
    refine Ev.step (fun k => ?_) (bent_l2 h hM hI e na (by omega) (ih (a + 1) (by omega)) a 0 (by omega))
    simp only [pomadelaw07_PlaitBent.l1]
    rw [if_pos (by omega)]
    rfl
theorem bent_l0 (h : Dia n d) (hM : M ≤ 1000) (hI : I < M) (e : pwr n d I = pwr n d M) (na : ∀ a b, a < M → b < a → pwr n d b ≠ pwr n d a) (c : Nat) : ∀ m, 1 ≤ m → m + c = M + 1 →
    Ev (fun k => pomadelaw07_PlaitBent.l0 k d ((I + 1 : Nat) : Int) ((M + 1 : Nat) : Int) (pws n d m)) true := by
  induction c with
  | zero =>
    intro m h1 hm
    obtain rfl : m = M + 1 := by omega
    refine Ev.step (fun k => ?_) (bent_l1 h hM hI e na (M + 1) 0 (by omega))
    simp only [pomadelaw07_PlaitBent.l0]
    rw [if_neg (by rw [pws_len]; omega)]
    rfl
  | succ c ih =>
    intro m h1 hm
    obtain ⟨m, rfl⟩ : ∃ q, m = q + 1 := ⟨m - 1, by omega⟩
    have ew : wrap64 ((((pws n d (m + 1)).length : Nat) : Int) - 1) = (m : Int) := by rw [pws_len, pw64 (by omega) (by omega)]; omega
    refine Ev.step (f := fun k => (plait_Product.f k (pwr n d m) d).bind fun bt912 => (if bt912.2.2 = 0 then (if (pws n d (m + 1)).length < 5864062014805 then (pomadelaw07_PlaitBent.l0 k d ((I + 1 : Nat) : Int) ((M + 1 : Nat) : Int) (pws n d (m + 1) ++ [bt912.1])) else (none)) else (some false))) (fun k => ?_) ?_
    · simp only [pomadelaw07_PlaitBent.l0]
      rw [if_pos (by rw [pws_len]; omega), ew, if_pos (by omega), if_pos (by rw [pws_len]; omega), pws_rd (by omega)]
    · refine Ev.bind (product_yes (pwr_dia h m) h) ?_
      refine Ev.congr (fun k => ?_) (ih (m + 2) (by omega) (by omega))
      rw [if_pos rfl, if_pos (by rw [pws_len]; omega), show m + 2 = (m + 1) + 1 from rfl, ← pws_succ n d (m + 1)]
      rfl
end
theorem PlaitBent_pure : pomadelaw07_PlaitBent.Pure := by
  intro l s _ _ _ _
  refine Ev.rounds (g := fun k => pomadelaw07_PlaitBent.f k l s) ?_
  have alive : ∀ x, x = true → Ev (fun k => pomadelaw07_PlaitBent.j0 k l s x) true := fun x hx =>
    Ev.step (f := fun _ => some true) (fun k => by simp only [pomadelaw07_PlaitBent.j0]; rw [if_pos hx]; rfl) (Ev.now _)
  by_cases c : (l.length : Int) > 50
  · exact Ev.congr (fun k => by unfold pomadelaw07_PlaitBent.f; rw [if_pos c]) (alive true rfl)
  · by_cases c1 : (s.size : Int) > 50
    · exact Ev.congr (fun k => by unfold pomadelaw07_PlaitBent.f; rw [if_neg c]) (alive _ (decide_eq_true c1))
    · refine Ev.congr (f := fun k => pomadelaw07_PlaitBent.j0 k l s false) (fun k => by unfold pomadelaw07_PlaitBent.f; rw [if_neg c, decide_eq_false c1]) ?_
      have last : Ev (fun k => pomadelaw07_PlaitBent.j1 k l) true := by
        refine Ev.step (f := fun k => (plait_Arches.f k l).bind fun bt896 => (if bt896.2 = 0 then ((plait_Bend.f k (wrap64 ((l.length : Int) / 2)) bt896.1).bind fun bt899 => ((plait_Power.f k l).bind fun bt903 => ((pomaderef07_Diagram.f k l).bind fun t906 => (if t906 = 0 then (if bt899.2 = 0 then (if bt903.2.2 = 0 then ((pomadelaw07_same.f k bt899.1 l).bind fun t907 => (if t907 = true then (if bt903.1 < 1 then (pomadelaw07_PlaitBent.j2 k l bt903.1 bt903.2.1 true) else (if bt903.2.1 ≤ bt903.1 then (pomadelaw07_PlaitBent.j2 k l bt903.1 bt903.2.1 true) else (pomadelaw07_PlaitBent.j2 k l bt903.1 bt903.2.1 (decide (bt903.2.1 > 100))))) else (pomadelaw07_PlaitBent.j2 k l bt903.1 bt903.2.1 true))) else (pomadelaw07_PlaitBent.j2 k l bt903.1 bt903.2.1 true)) else (pomadelaw07_PlaitBent.j2 k l bt903.1 bt903.2.1 true)) else (pomadelaw07_PlaitBent.j2 k l bt903.1 bt903.2.1 true))))) else (if bt896.1.toList = ([] : List UInt8) then ((pomadelaw07_alive.f).bind fun t898 => (some t898)) else (some false)))) (fun k => by simp only [pomadelaw07_PlaitBent.j1]) ?_
        obtain ⟨r, a1, a3⟩ := arches_plait l
        refine Ev.bind a1 ?_
        rcases a3 with ⟨z, n, h, e⟩ | ⟨z, e⟩
        · have hn := h.lim
          have h0 := h.pos
          have hl := h.lm.len
          have ew : wrap64 ((l.length : Int) / 2) = (n : Int) := by rw [pw64 (by omega) (by omega)]; omega
          obtain ⟨M, I, m1, m2, m3, m4, m5, p1⟩ := powerP_dia h
          refine Ev.congr (fun k => by rw [if_pos z, ew, e]) ?_
          refine Ev.bind (dia_bend h) ?_
          refine Ev.bind p1 ?_
          refine Ev.bind (dia_ref h) ?_
          refine Ev.congr (fun k => by rw [if_pos rfl, if_pos rfl, if_pos rfl]) ?_
          refine Ev.bind (same_ev (show l.length ≤ 1000000 by omega)) ?_
          refine Ev.congr (f := fun k => pomadelaw07_PlaitBent.j2 k l ((I + 1 : Nat) : Int) ((M + 1 : Nat) : Int) false) (fun k => ?_) ?_
          · rw [if_pos rfl, if_neg (show ¬ ((I + 1 : Nat) : Int) < 1 by omega), if_neg (show ¬ ((M + 1 : Nat) : Int) ≤ ((I + 1 : Nat) : Int) by omega), decide_eq_false (show ¬ ((M + 1 : Nat) : Int) > 100 by omega)]
          · refine Ev.step (fun k => ?_) (bent_l0 h (by omega) m2 m3 m5 M 1 (by omega) (by omega))
            simp only [pomadelaw07_PlaitBent.j2]
            rw [if_neg (by decide)]
            rfl
        · refine Ev.congr (f := fun _ => some true) (fun k => ?_) (Ev.now _)
          rw [if_neg z, e, if_pos (by rw [Go.ByteArray.toList_eq])]; rfl
      refine Ev.step (f := fun k => (plait_Bend.f k (wrap64 ((s.size : Int) / 2)) s).bind fun bt888 => (if bt888.2 = 0 then ((plait_Arches.f k bt888.1).bind fun bt892 => ((plait_Is.f k bt888.1).bind fun bt894 => (if bt892.2 = 0 then (if bt894.2 = 0 then (if bt892.1.toList = s.toList then (if bt894.1 = true then (pomadelaw07_PlaitBent.j1 k l) else (some false)) else (some false)) else (some false)) else (some false)))) else (pomadelaw07_PlaitBent.j1 k l))) (fun k => by simp only [pomadelaw07_PlaitBent.j0]; rw [if_neg (by decide)]) ?_
      obtain ⟨r, b1, b3⟩ := bend_plait (wrap64 ((s.size : Int) / 2)) s (by omega)
      refine Ev.bind b1 ?_
      by_cases z : r.2 = 0
      · obtain ⟨n, o, n1, n2, n3, eo, ho⟩ := b3 z
        obtain ⟨hd, es⟩ := bend_dia (by omega) n2 n3 (part_true (by omega) ho)
        refine Ev.congr (fun k => by rw [if_pos z, eo]) ?_
        refine Ev.bind (arches_yes hd) ?_
        refine Ev.bind (is_yes hd) ?_
        refine Ev.congr (fun k => ?_) last
        rw [if_pos rfl, if_pos rfl, es, if_pos rfl, if_pos rfl]
      · exact Ev.congr (fun k => by rw [if_neg z]) last
end Go.Proofs.Ytjfkompfkgjdaaa.L
namespace Go.Proofs.Ytjfkompfkgjdaaa.Pure
theorem PlaitBent : Go.Proofs.Ytjfkompfkgjdaaa.PC.pomadelaw07_PlaitBent.Pure := Go.Proofs.Ytjfkompfkgjdaaa.L.PlaitBent_pure
end Go.Proofs.Ytjfkompfkgjdaaa.Pure
end
section
namespace Go.Proofs.Ytjfkompfkgjdaaa.plaitBent
open Go.ChangeShapes Go.WideShapes Go.ChangeAt Go.RowKit
open Go.ChangeMaps (open_string shut_string)
set_option linter.unusedVariables false
theorem own : ownKnob Try.prog.godebug = none := by kernel_rfl
theorem laidOut : laidOutB Try.prog = true := by kernel_rfl
def IsRow (k : IntKind) (w : World) (a : Option Addr) (len cap : Nat) (zs : List Int) : Prop :=
  (a = none ∧ len = 0 ∧ cap = 0 ∧ zs = []) ∨
  ∃ x, a = some x ∧ len ≤ cap ∧ cap ≤ maxLen ∧ zs.length = cap ∧ (∀ i, i < zs.length → w.cell? (x.add i) = some (.int k (zs.getD i 0))) ∧ ∀ n ∈ zs, (Lit.int k n).wf = true
set_option maxRecDepth 100000 in
theorem lifted (os : Os) (started : os.Started) (H : Type) (enc : TypeId × Value → H) :
    ReturnsInHanded {} Try.checked os 18 .any (Rows.plaitBentSpec.pre6 enc Try.prog Try.f18 Rows.plaitBentRow.domain false) (Rows.plaitBentSpec.post enc Try.prog Try.f18 false true false false) := by
  refine returnsInHanded_of_change_sized (C := Try.checked) own started (by kernel_rfl) Try.func18
    (ChangeSpec.witness6 (enc := enc) (C := Try.checked) false ⟨#[], #[.slice none 0 0, .string ByteArray.empty], []⟩ 8 (by kernel_rfl) (by kernel_rfl) (by kernel_rfl) (by kernel_rfl)) ?_
  intro W base args ds gs before hval0 hW hcnd hsz0 _
  have hsz : (DataW.weightsEach Try.prog (Try.f18.params.toList ++ Rows.plaitBentSpec.plain.varTypes Try.prog) (ds ++ gs)).all (· ≤ reachBytes) = true := hsz0
  have hval : ∀ (j : Nat) t v, Try.f18.params[j]? = some t → args[j]? = some v → Value.okWide Try.prog W .any base t v := hval0
  have hW' := hW
  obtain ⟨p, q, hA0, hV, rfl, hfz, hnd⟩ := hW
  have hA : DataW.TrodAll enc Try.prog W 0 (fun _ => true) true Try.f18.params.toList args.toList ds p := hA0
  rw [Try.params18] at hA hval hsz
  obtain ⟨v0, vs0, d0, ds0, p0, q0, hargs, rfl, rfl, h0, r0⟩ := trodAll_cons hA
  obtain ⟨v1, vs1, d1, ds1, p1, q1, rfl, rfl, rfl, h1, r1⟩ := trodAll_cons r0
  obtain ⟨rfl, rfl, rfl⟩ := trodAll_nil r1
  obtain rfl : args = #[v0, v1] := by cases args; simp_all
  obtain ⟨rfl, rfl⟩ := trodVars_none hV
  obtain ⟨a0, len0, cap0, rfl⟩ := okWide_slice Try.underlying22 (hval 0 22 v0 rfl rfl)
  have k0 := h0
  have lt0 : ∀ x ∈ p0, x.block < W.heap.size := by obtain ⟨m, hm⟩ := k0; exact DataW.trod_lt m _ _ _ hm
  obtain ⟨z0, w0⟩ : ∃ zs, IsRow .i64 W a0 len0 cap0 zs := by
    obtain ⟨fuel, hf⟩ := h0
    rcases open_ints Try.underlying22 Try.underlying3 (by kernel_rfl) hf with ⟨hcs, _⟩ | ⟨x, l, c, zs, hcs, _, hl, hm, hz, _, hcell, hwz⟩
    · simp [Value.cells] at hcs
      obtain ⟨rfl, rfl, rfl⟩ := hcs
      exact ⟨[], .inl ⟨rfl, rfl, rfl, rfl⟩⟩
    · simp [Value.cells] at hcs
      obtain ⟨rfl, rfl, rfl⟩ := hcs
      exact ⟨zs, .inr ⟨_, rfl, hl, hm, by simpa using hz, hcell, hwz⟩⟩
  have y0 : len0 * 8 ≤ 140737488351232 := Go.Proofs.YtjfkompfkgjdaaaW.PrintWords.sized_ints hsz (j := 0) (t := 22) rfl rfl Try.underlying22 Try.underlying3 (by kernel_rfl) (by kernel_rfl) h0
  obtain ⟨a1, rfl, rfl, rfl, y1⟩ := open_string Try.underlying9 (hval 1 9 v1 rfl rfl) h1
  have w1 : a1.size ≤ 140737488351232 := by
    have z := sized_string hsz (j := 1) (t := 9) rfl rfl
    rw [Array.length_toList] at z
    exact z
  clear hA0 hval0 hsz0 hsz
  refine (PC.pomadelaw07_PlaitBent.walk Pure.PlaitBent a0 len0 cap0 z0 a1 W w0 y0 w1).mono fun e W' ⟨he, bel⟩ => ?_
  subst he
  exact ⟨_, rfl, _, _, _, [], _, [], hW', trodAll_mk1 (shut_bool Try.underlying4 _), (trodAll_cons_mk (Below.trod laidOut (by kernel_rfl) (of_decide_eq_true (by kernel_rfl)) k0 bel lt0) (trodAll_cons_mk (shut_string Try.underlying9 y1) trodAll_mk0)), rfl, bel.frame _, fun h => by cases h⟩
theorem over : Rows.plaitBentRow.holds Try.pinned (OpenSpec.ofChange Rows.plaitBentSpec) :=
  OpenClaim.holds_of_wide 18 Try.f18 rfl rfl rfl rfl rfl rfl rfl ⟨rfl, rfl, rfl, rfl, rfl⟩ rfl rfl rfl rfl rfl (by kernel_rfl) Try.func18 (by kernel_rfl)
    (of_decide_eq_true (by kernel_rfl)) (by unfold Func.isWrapper; first | (rw [if_pos (by decide +kernel)]; kernel_rfl) | (rw [if_neg (by decide +kernel)]; exact ⟨rfl, rfl⟩))
    (fun os started H enc _ => lifted os started H enc)
theorem proved : Rows.PlaitBentSaid := over
#print axioms proved
end Go.Proofs.Ytjfkompfkgjdaaa.plaitBent
namespace Go.Proofs.Ytjfkompfkgjdaaa
/-- The row, under a short name, for the claim. -/
theorem plaitBent_holds : Rows.PlaitBentSaid := plaitBent.proved
end Go.Proofs.Ytjfkompfkgjdaaa
end
