-- Printed by a program of this session (mkprint.sh, over the kit's print.py), with own proofs for the functions that the print does not take.
import Derived.Test.YtgbalmjnjpfopaaPCx0
import Derived.Test.YtgbalmjnjpfopaaPCx1
import Derived.Sort.LoopGhostIn
import Derived.Sort.QuietIn
import Derived.IntWalk
import Derived.Test.YtgbalmjnjpfopaaHBack
import Derived.Test.YtgbalmjnjpfopaaHQuiet
import Derived.Laws.CopyOwn
import Derived.Deep.RegionLaw
import Derived.IntWalk
import Derived.Test.YtgbalmjnjpfopaaHBack
namespace Go.Proofs.Ytgbalmjnjpfopaa.PC
open Go.RowKit Go.Proofs.YtgbalmjnjpfopaaW.PrintWords Go.Proofs.YtgbalmjnjpfopaaW.PrintLast Go.Proofs.YtgbalmjnjpfopaaW.PrintMore
attribute [local go_sem] max2_int min2_int max_two min_two max_three min_three max_four min_four   -- for this text's walks alone
set_option linter.unusedVariables false
set_option linter.unusedSimpArgs false

/-! ### coins_fewest: function 38 -/
mutual
def coins_fewest.l0 : Nat → List Int → Int → List Int → Int → Option (List Int)
  | 0, _, _, _, _ => none
  | k + 1, x0, x1, x5, x6 => if x6 ≤ x1 then (if 0 ≤ (wrap64 (x6 - 1)) then (if (wrap64 (x6 - 1)) < (x5.length : Int) then (if 0 ≤ x6 then (if x6 < (x5.length : Int) then (if 1 ≤ (x0.length : Int) then (coins_fewest.l1 k x0 x1 (x5.set (x6 : Int).toNat (wrap64 ((rd x5 (wrap64 (x6 - 1))) + 1))) x6 (x0.drop 1) ((x0.drop 1).length : Int) 0) else (none)) else (none)) else (none)) else (none)) else (none)) else (some x5)
def coins_fewest.l1 : Nat → List Int → Int → List Int → Int → List Int → Int → Int → Option (List Int)
  | 0, _, _, _, _, _, _, _ => none
  | k + 1, x0, x1, x5, x6, x27, x28, x29 => if x29 < x28 then (if 0 ≤ x29 then (if x29 < (x27.length : Int) then (if (rd x27 x29) > x6 then (coins_fewest.l0 k x0 x1 x5 (wrap64 (x6 + 1))) else (if 0 ≤ x6 then (if x6 < (x5.length : Int) then (if 0 ≤ (wrap64 (x6 - (rd x27 x29))) then (if (wrap64 (x6 - (rd x27 x29))) < (x5.length : Int) then (coins_fewest.l1 k x0 x1 (x5.set (x6 : Int).toNat (mn (rd x5 x6) (wrap64 ((rd x5 (wrap64 (x6 - (rd x27 x29)))) + 1)))) x6 x27 x28 (wrap64 (x29 + 1))) else (none)) else (none)) else (none)) else (none))) else (none)) else (none)) else (coins_fewest.l0 k x0 x1 x5 (wrap64 (x6 + 1)))
end
def coins_fewest.f (k : Nat) (l0 : List Int) (a1 : Int) : Option (List Int) := if 0 ≤ (wrap64 (a1 + 1)) then (if (wrap64 (a1 + 1) : Int).toNat ≤ 35184372088832 then (coins_fewest.l0 k l0 a1 (List.replicate (wrap64 (a1 + 1) : Int).toNat 0) 1) else (none)) else (none)
theorem coins_fewest.mono_l : ∀ k, (∀ y0 y1 y2 y3, LeO (coins_fewest.l0 k y0 y1 y2 y3) (coins_fewest.l0 (k + 1) y0 y1 y2 y3)) ∧ (∀ y0 y1 y2 y3 y4 y5 y6, LeO (coins_fewest.l1 k y0 y1 y2 y3 y4 y5 y6) (coins_fewest.l1 (k + 1) y0 y1 y2 y3 y4 y5 y6))
  | 0 => ⟨fun _ _ _ _ r h => by simp [coins_fewest.l0] at h, fun _ _ _ _ _ _ _ r h => by simp [coins_fewest.l1] at h⟩
  | k + 1 => by
    obtain ⟨ih0, ih1⟩ := coins_fewest.mono_l k
    refine ⟨?_, ?_⟩
    · intro y0 y1 y2 y3
      unfold coins_fewest.l0
      repeat' first
      | (with_reducible exact ih0 _ _ _ _)
      | (with_reducible exact ih1 _ _ _ _ _ _ _)
      | (with_reducible exact LeO.refl _)
      | (with_reducible exact LeO.none _)
      | (with_reducible refine LeO.ite ?_ ?_)
      | (with_reducible refine LeO.bind ?_ (fun _ => ?_))
      | exact ih0 _ _ _ _
      | exact ih1 _ _ _ _ _ _ _
      | exact LeO.none _
      | refine LeO.ite ?_ ?_
      | refine LeO.bind ?_ (fun _ => ?_)
    · intro y0 y1 y2 y3 y4 y5 y6
      unfold coins_fewest.l1
      repeat' first
      | (with_reducible exact ih0 _ _ _ _)
      | (with_reducible exact ih1 _ _ _ _ _ _ _)
      | (with_reducible exact LeO.refl _)
      | (with_reducible exact LeO.none _)
      | (with_reducible refine LeO.ite ?_ ?_)
      | (with_reducible refine LeO.bind ?_ (fun _ => ?_))
      | exact ih0 _ _ _ _
      | exact ih1 _ _ _ _ _ _ _
      | exact LeO.none _
      | refine LeO.ite ?_ ?_
      | refine LeO.bind ?_ (fun _ => ?_)
theorem coins_fewest.mono : ∀ a0 a1 k, LeO (coins_fewest.f k a0 a1) (coins_fewest.f (k + 1) a0 a1) := by
  intro a0 a1 k
  obtain ⟨ih0, ih1⟩ := coins_fewest.mono_l k
  unfold coins_fewest.f
  repeat' first
      | (with_reducible exact ih0 _ _ _ _)
      | (with_reducible exact ih1 _ _ _ _ _ _ _)
      | (with_reducible exact LeO.refl _)
      | (with_reducible exact LeO.none _)
      | (with_reducible refine LeO.ite ?_ ?_)
      | (with_reducible refine LeO.bind ?_ (fun _ => ?_))
      | exact ih0 _ _ _ _
      | exact ih1 _ _ _ _ _ _ _
      | exact LeO.none _
      | refine LeO.ite ?_ ?_
      | refine LeO.bind ?_ (fun _ => ?_)
def coins_fewest.T10 : Bool × List (List Nat × List Nat) := (true, [([], []), ([], []), ([], []), ([], []), ([2, 3], [2, 3]), ([4], [4]), ([], []), ([], []), ([], []), ([7, 8], [7, 8]), ([6, 9], [6, 9]), ([10], [10]), ([11], [11]), ([5, 12], [5, 12]), ([0, 1, 0, 1, 2, 3, 4, 5, 6, 7, 8, 9, 10, 11, 12, 13], [0, 1]), ([14, 13, 0, 1, 2, 3, 4, 5, 6, 7, 8, 9, 10, 11, 12, 13], [13, 14])])
def coins_fewest.B10 : List Nat := [0, 0, 0, 0, 12, 28, 0, 0, 0, 384, 960, 1984, 4032, 8188, 16383, 32767]
theorem coins_fewest.tab10 : rtab .any (opsOf Try.f38 10) = coins_fewest.T10 := by kernel_rfl
theorem coins_fewest.bits10 : waitsOk coins_fewest.T10.2 coins_fewest.B10 = true := by kernel_rfl
set_option maxHeartbeats 8000000 in
set_option maxRecDepth 100000 in
theorem coins_fewest.calls (k : Nat) (A0 : Option Addr) (c0 : Nat) (l0 : List Int) (a1 : Int) (r : List Int) (w : World) (hr0 : Kd.C (Kd.int .i64) w A0 l0.length l0) (hc0 : l0.length ≤ c0) (h : coins_fewest.f k l0 a1 = some r) :
    Calls Try.prog 38 #[.slice A0 l0.length c0, .int .i64 a1] w fun e w' => ∃ v0_ : Value, e = .returned (v0_) ∧ Kd.R (Kd.int .i64) 3 w' w.heap.size (fun _ => True) v0_ r ∧ Below w.heap.size w w' := by
  have HR0 := Aside0.mk hr0
  have HC0 := Aside0.mk hc0
  clear hr0 hc0
  have HB := Aside0.mk (Below.refl w.heap.size w)
  have H : (if 0 ≤ (wrap64 (a1 + 1)) then (if (wrap64 (a1 + 1) : Int).toNat ≤ 35184372088832 then (coins_fewest.l0 k l0 a1 (List.replicate (wrap64 (a1 + 1) : Int).toNat 0) 1) else (none)) else (none)) = some r := h
  clear h
  obtain ⟨ji3, hji3⟩ : ∃ j_ : Int, (wrap64 (a1 + 1)) = j_ := ⟨_, rfl⟩
  replace H : (if 0 ≤ (ji3) then (if (ji3 : Int).toNat ≤ 35184372088832 then (coins_fewest.l0 k l0 a1 (List.replicate (ji3 : Int).toNat 0) 1) else (none)) else (none)) = some r := by first | (rw [hji3] at H; exact H) | (simp only [hji3] at H ⊢; exact H)
  have hji3w : (IntKind.i64.wrap (a1 + 1)) = ji3 := (i64_w _).trans hji3
  by_cases c4 : 0 ≤ (ji3)
  · rw [if_pos c4] at H
    have c4b0 := eq_true c4
    have c4b1 : decide (0 ≤ (ji3)) = true := decide_eq_true c4
    clear c4
    by_cases c5 : (ji3 : Int).toNat ≤ 35184372088832
    · rw [if_pos c5] at H
      have c5b0 := eq_true c5
      have c5b1 : decide ((ji3 : Int).toNat ≤ 35184372088832) = true := decide_eq_true c5
      clear c5
      obtain ⟨y143, hy143⟩ : ∃ y_ : List Int, y_ = (List.replicate (ji3 : Int).toNat 0) := ⟨_, rfl⟩
      replace H : (coins_fewest.l0 k l0 a1 y143 1) = some r := by first | (rw [hy143]; with_reducible exact H) | (have H2_ := (Option.bind_some _ _).symm.trans H; rw [hy143]; with_reducible exact H2_) | (have H2_ := (Option.bind_some _ _).symm.trans H; with_reducible exact H2_) | with_reducible exact H | (rw [hy143]; exact H) | exact H
      have Ny143 := Aside0.mk hy143
      clear hy143
      have H' := Aside0.mk H
      clear H
      go_enter Try.func38, Try.ntmps38
      go_wp2_with (first | ((with_reducible refine gate_dst (N := 11) rfl ?_); refine Kd.R_make (Kd.int .i64) _ 3 rfl (N := 11) rfl 22 _ _ rfl ji3 rfl rfl Try.underlying22 (.int .i64 0) 8 info3 rfl (by decide) (by omega) 0 (ok := fun _ => True) (okp := fun _ => True) rfl (fun _ hk => hk) trivial (of_decide_eq_true (by first | (with_reducible assumption) | assumption)) (Nat.le_trans (Nat.mul_le_mul_right _ (of_decide_eq_true (by first | (with_reducible assumption) | assumption) : ji3.toNat ≤ 35184372088832)) (by omega)) (Below.refl _ _) (Nat.le_refl _) ?_; intro v144 w6 ho7 hb hg_ hnew_; clear hg_ hnew_; (first | rw [← Ny143.out] at ho7 | (simp only [Int.reduceToNat] at ho7; rw [← Ny143.out] at ho7)); have n0_ := Aside0.mk (Kd.R_lower ho7 (below_size (by repeat (first | (with_reducible first | exact HB.out | apply below_alloc | apply pw_below_drewN | apply below_drew1) | exact HB.out)))); have n1_ := Aside0.mk (below_step (by repeat (first | (with_reducible first | exact HB.out | apply below_alloc | apply pw_below_drewN | apply below_drew1) | exact HB.out)) hb); clear HB; have HO145 := n0_; have HB := n1_; clear n0_ n1_; clear hb ho7))
      go_loopg [6] k (fun kq v6 w' => ∃ (x5_1 : List Int) (x6_1 : Int), v6 = .int .i64 x6_1 ∧ Aside0 (coins_fewest.l0 kq l0 a1 x5_1 x6_1 = some r) ∧ Aside0 (kq ≤ k) ∧ Aside0 (Kd.R (Kd.int .i64) 3 w' w.heap.size (fun _ => True) v144 x5_1) ∧ Aside0 (Below w.heap.size w w'))
      case atStart => exact ⟨(y143), (1), (by first | rfl | (simp; done) | (simp [*]; done)), H', ⟨Nat.le_refl _⟩, ⟨by (with_reducible repeat (first | apply Kd.R_alloc | apply Kd.R_drewN | apply Kd.R_drew)); exact HO145.out⟩, ⟨by repeat (first | (with_reducible first | exact HB.out | apply below_alloc | apply pw_below_drewN | apply below_drew1) | exact HB.out)⟩⟩
      case round =>
        clear H'
        try clear p2
        try clear c3
        try clear c4
        try clear c4b0
        try clear c4b1
        try clear c5
        try clear c5b0
        try clear c5b1
        try clear p6
        obtain ⟨x5_1, x6_1, rfl, HA, HK1, HO_5, HB⟩ := hrel
        cases gk with
        | zero => exact absurd HA.out (by simp [coins_fewest.l0])
        | succ k1 =>
          have H := HA.out
          clear HA
          simp only [coins_fewest.l0] at H
          by_cases c8 : x6_1 ≤ a1
          · rw [if_pos c8] at H
            have c8b0 : decide (x6_1 ≤ a1) = true := decide_eq_true c8
            clear c8
            obtain ⟨ji9, hji9⟩ : ∃ j_ : Int, (wrap64 (x6_1 - 1)) = j_ := ⟨_, rfl⟩
            replace H : (if 0 ≤ (ji9) then (if (ji9) < (x5_1.length : Int) then (if 0 ≤ x6_1 then (if x6_1 < (x5_1.length : Int) then (if 1 ≤ (l0.length : Int) then (coins_fewest.l1 k1 l0 a1 (x5_1.set (x6_1 : Int).toNat (wrap64 ((rd x5_1 (ji9)) + 1))) x6_1 (l0.drop 1) ((l0.drop 1).length : Int) 0) else (none)) else (none)) else (none)) else (none)) else (none)) = some r := by first | (rw [hji9] at H; exact H) | (simp only [hji9] at H ⊢; exact H)
            have hji9w : (IntKind.i64.wrap (x6_1 - 1)) = ji9 := (i64_w _).trans hji9
            by_cases c10 : 0 ≤ (ji9)
            · rw [if_pos c10] at H
              have c10b0 : decide (0 ≤ (ji9)) = true := decide_eq_true c10
              clear c10
              by_cases c11 : (ji9) < (x5_1.length : Int)
              · rw [if_pos c11] at H
                have c11b0 : decide ((ji9) < (x5_1.length : Int)) = true := decide_eq_true c11
                clear c11
                by_cases c12 : 0 ≤ x6_1
                · rw [if_pos c12] at H
                  have c12b0 : decide (0 ≤ x6_1) = true := decide_eq_true c12
                  clear c12
                  by_cases c13 : x6_1 < (x5_1.length : Int)
                  · rw [if_pos c13] at H
                    have c13b0 : decide (x6_1 < (x5_1.length : Int)) = true := decide_eq_true c13
                    clear c13
                    obtain ⟨y147, hy147⟩ : ∃ y_ : List Int, y_ = (x5_1.set (x6_1 : Int).toNat (wrap64 ((rd x5_1 (ji9)) + 1))) := ⟨_, rfl⟩
                    replace H : (if 1 ≤ (l0.length : Int) then (coins_fewest.l1 k1 l0 a1 y147 x6_1 (l0.drop 1) ((l0.drop 1).length : Int) 0) else (none)) = some r := by first | (rw [hy147]; with_reducible exact H) | (have H2_ := (Option.bind_some _ _).symm.trans H; rw [hy147]; with_reducible exact H2_) | (have H2_ := (Option.bind_some _ _).symm.trans H; with_reducible exact H2_) | with_reducible exact H | (rw [hy147]; exact H) | exact H
                    have Ny147 := Aside0.mk hy147
                    clear hy147
                    by_cases c15 : 1 ≤ (l0.length : Int)
                    · rw [if_pos c15] at H
                      have c15b0 := eq_true c15
                      have c15b1 : decide (1 ≤ (l0.length : Int)) = true := decide_eq_true c15
                      clear c15
                      have H' := Aside0.mk H
                      clear H
                      obtain ⟨Ao16, co16, eo16⟩ := Kd.R_slice HO_5.out
                      subst eo16
                      have p146 : 0 ≤ ((ji9) : Int) := of_decide_eq_true (by first | (with_reducible assumption) | assumption)
                      have q146 : (ji9) < (x5_1.length : Int) := of_decide_eq_true (by first | (with_reducible assumption) | assumption)
                      obtain ⟨ad146, e146, hx146_0⟩ := Kd.at_int (Kd.R_reads' HO_5.out).2.2 (ji9) p146 q146
                      cases e146
                      replace p146 := eq_true p146
                      replace q146 := eq_true q146
                      have p14 : 0 ≤ (x6_1 : Int) := of_decide_eq_true (by first | (with_reducible assumption) | assumption)
                      have q14 : (x6_1 : Int) < ((x5_1.length : Int) : Int) := of_decide_eq_true (by first | (with_reducible assumption) | assumption)
                      obtain ⟨go14, co14, eo14, gb14, gl14, cl14, HG14⟩ := Kd.R_form HO_5.out (by omega)
                      (first | cases eo14 | (injection eo14 with ea_ en_ ec_; (first | subst ea_ | (injection ea_ with ea_; subst ea_)); subst ec_; clear en_))
                      have GB14 := Aside0.mk gb14
                      have GG14 := Aside0.mk HG14
                      clear gb14 gl14 HG14
                      (first | simp only [add_plain] at hx146_0 | skip)
                      obtain ⟨hx14_0, hf14_0⟩ := Kd.R_celln 0 HO_5.out (x6_1 : Int) p14 q14
                      replace p14 := eq_true p14
                      replace q14 := eq_true q14
                      have HP17 := Kd.R_putg HO_5.out (x6_1 : Int) (wrap64 ((rd x5_1 (ji9)) + 1))
                      go_wp2_with (first | ((with_reducible refine gate_store (t := 3) (p := 25) rfl ?_); refine store_event (t := 3) (p := 25) (v := ?vo_w18) (w1 := (wr.setCell ⟨go14, (x6_1 : Int).toNat, none⟩ (.int .i64 (wrap64 ((rd x5_1 (ji9)) + 1))))) ?hg ?ho ?hn ?hr ?_; (case ho => rfl); (case hg => rfl); (case hn => rfl); (case hr => first | (go_simp; done) | (go_simp; rfl)); intro w18 hw; have hg : wr.grownBy w18 (some go14) := (by rw [hw]; exact HP17.2); have hp_ : Kd.R (Kd.int .i64) 3 w18 w.heap.size (fun _ => True) (.slice (some ⟨go14, 0, none⟩) x5_1.length co16) y147 := (by rw [hw, Ny147.out]; exact HP17.1); clear HP17; have n0_ := Aside0.mk (hp_); have n1_ := Aside0.mk ((by rw [hw]; exact below_set (HB.out) GB14.out : Below w.heap.size w w18)); clear HO_5; clear HB; have HO_5 := n0_; have HB := n1_; clear n0_ n1_; clear hg hw hp_; obtain ⟨i019, hi019, _, hsz19, _⟩ := info_parts info3; obtain ⟨A19, hcut19, hA19, hC19⟩ := print_drop_of (P := Try.prog) (Value.int .i64) 0 22 3 .i64 Try.underlying22 hi019 hsz19 A0 c0 l0 1 (by omega) (of_decide_eq_true (by first | (with_reducible assumption) | assumption)) HC0.out; obtain ⟨lt, hlt⟩ : ∃ lt : List Int, l0.drop (Int.toNat 1) = lt := ⟨_, rfl⟩; rw [hlt] at hcut19 hA19 hC19; have HLT := Aside0.mk hlt; clear hlt; have HR148 := Aside0.mk (Kd.C_of_reads (h1 := fun _ => rfl) (hA19 _ (Kd.reads_of_C HR0.out))); have HC148 := Aside0.mk hC19; clear hA19 hC19 hi019 hsz19))
                      go_loopg [29] k1 (fun kq v29 w' => ∃ (x5_2 : List Int) (x29_2 : Int), v29 = .int .i64 x29_2 ∧ Aside0 (coins_fewest.l1 kq l0 a1 x5_2 x6_1 lt (lt.length : Int) x29_2 = some r) ∧ Aside0 (kq ≤ k1) ∧ Aside0 (Kd.R (Kd.int .i64) 3 w' w.heap.size (fun _ => True) (.slice (some ⟨go14, 0, none⟩) x5_1.length co16) x5_2) ∧ Aside0 (Below w.heap.size w w'))
                      case atStart => exact ⟨(y147), (0), (by first | rfl | (simp; done) | (simp [*]; done)), ⟨by have zz_ := H'.out; rw [show l0.drop 1 = lt from HLT.out] at zz_; exact zz_⟩, ⟨Nat.le_refl _⟩, ⟨by (with_reducible repeat (first | apply Kd.R_alloc | apply Kd.R_drewN | apply Kd.R_drew)); exact HO_5.out⟩, ⟨by repeat (first | (with_reducible first | exact HB.out | apply below_alloc | apply pw_below_drewN | apply below_drew1) | exact HB.out)⟩⟩
                      case round =>
                        clear H'
                        try clear c1
                        try clear p1
                        try clear q1
                        try clear hx1
                        try clear p2
                        try clear c3
                        try clear c4
                        try clear c4b0
                        try clear c4b1
                        try clear c5
                        try clear c5b0
                        try clear c5b1
                        try clear p6
                        try clear c8
                        try clear c8b0
                        try clear c10
                        try clear c10b0
                        try clear c11
                        try clear c11b0
                        try clear c12
                        try clear c12b0
                        try clear c13
                        try clear c13b0
                        try clear p14
                        try clear q14
                        try clear hx14
                        try clear hf14
                        try clear c15
                        try clear c15b0
                        try clear c15b1
                        try clear hx146_0
                        try clear hx14_0
                        try clear p14
                        try clear p146
                        try clear p2
                        try clear p6
                        try clear q14
                        try clear q146
                        obtain ⟨x5_2, x29_2, rfl, HA, HK2, HO_5, HB⟩ := hrel
                        have hl5_2 := (Kd.R_reads' HO_5.out).1
                        rw [hl5_2] at HO_5
                        (try simp only [hl5_2])
                        cases gk with
                        | zero => exact absurd HA.out (by simp [coins_fewest.l1])
                        | succ k2 =>
                          have H := HA.out
                          clear HA
                          simp only [coins_fewest.l1] at H
                          by_cases c20 : x29_2 < (lt.length : Int)
                          · rw [if_pos c20] at H
                            have c20b0 : decide (x29_2 < (lt.length : Int)) = true := decide_eq_true c20
                            clear c20
                            by_cases c21 : 0 ≤ x29_2
                            · rw [if_pos c21] at H
                              have c21b0 : decide (0 ≤ x29_2) = true := decide_eq_true c21
                              clear c21
                              by_cases c22 : x29_2 < (lt.length : Int)
                              · rw [if_pos c22] at H
                                have c22b0 : decide (x29_2 < (lt.length : Int)) = true := decide_eq_true c22
                                clear c22
                                by_cases c23 : (rd lt x29_2) > x6_1
                                · rw [if_pos c23] at H
                                  have c23b0 : decide (x6_1 < (rd lt x29_2)) = true := decide_eq_true c23
                                  clear c23
                                  have H' := Aside0.mk H
                                  clear H
                                  have p149 : 0 ≤ (x29_2 : Int) := of_decide_eq_true (by first | (with_reducible assumption) | assumption)
                                  have q149 : x29_2 < (lt.length : Int) := of_decide_eq_true (by first | (with_reducible assumption) | assumption)
                                  obtain ⟨ad149, e149, hx149_0⟩ := Kd.at_int HR148.out x29_2 p149 q149
                                  cases e149
                                  replace hx149_0 := (HB.out.cell (World.block_lt_of_cell? w _ hx149_0)).trans hx149_0
                                  replace p149 := eq_true p149
                                  replace q149 := eq_true q149
                                  go_wp2
                                  (try simp only [← hl5_2])
                                  go_roundg k2
                                  case measure => have := HK1.out; have := HK2.out; omega
                                  case rel => exact ⟨(x5_2), (wrap64 (x6_1 + 1)), (by first | rfl | (simp; done) | (simp [*]; done)), H', ⟨by have := HK1.out; have := HK2.out; omega⟩, ⟨by (try simp only [hl5_2]); (with_reducible repeat (first | apply Kd.R_alloc | apply Kd.R_drewN | apply Kd.R_drew)); exact HO_5.out⟩, ⟨by repeat (first | (with_reducible first | exact HB.out | apply below_alloc | apply pw_below_drewN | apply below_drew1) | exact HB.out)⟩⟩
                                · rw [if_neg c23] at H
                                  have c23b0 : decide (x6_1 < (rd lt x29_2)) = false := decide_eq_false c23
                                  clear c23
                                  by_cases c24 : 0 ≤ x6_1
                                  · rw [if_pos c24] at H
                                    have c24b0 : decide (0 ≤ x6_1) = true := decide_eq_true c24
                                    clear c24
                                    by_cases c25 : x6_1 < (x5_2.length : Int)
                                    · rw [if_pos c25] at H
                                      have c25b0 : decide (x6_1 < (x5_2.length : Int)) = true := decide_eq_true c25
                                      clear c25
                                      obtain ⟨ji26, hji26⟩ : ∃ j_ : Int, (wrap64 (x6_1 - (rd lt x29_2))) = j_ := ⟨_, rfl⟩
                                      replace H : (if 0 ≤ (ji26) then (if (ji26) < (x5_2.length : Int) then (coins_fewest.l1 k2 l0 a1 (x5_2.set (x6_1 : Int).toNat (mn (rd x5_2 x6_1) (wrap64 ((rd x5_2 (ji26)) + 1)))) x6_1 lt (lt.length : Int) (wrap64 (x29_2 + 1))) else (none)) else (none)) = some r := by first | (rw [hji26] at H; exact H) | (simp only [hji26] at H ⊢; exact H)
                                      have hji26w : (IntKind.i64.wrap (x6_1 - (rd lt x29_2))) = ji26 := (i64_w _).trans hji26
                                      by_cases c27 : 0 ≤ (ji26)
                                      · rw [if_pos c27] at H
                                        have c27b0 : decide (0 ≤ (ji26)) = true := decide_eq_true c27
                                        clear c27
                                        by_cases c28 : (ji26) < (x5_2.length : Int)
                                        · rw [if_pos c28] at H
                                          have c28b0 : decide ((ji26) < (x5_2.length : Int)) = true := decide_eq_true c28
                                          clear c28
                                          obtain ⟨ji29, hji29⟩ : ∃ j_ : Int, (mn (rd x5_2 x6_1) (wrap64 ((rd x5_2 (ji26)) + 1))) = j_ := ⟨_, rfl⟩
                                          replace H : (coins_fewest.l1 k2 l0 a1 (x5_2.set (x6_1 : Int).toNat (ji29)) x6_1 lt (lt.length : Int) (wrap64 (x29_2 + 1))) = some r := by first | (rw [hji29] at H; exact H) | (simp only [hji29] at H ⊢; exact H)
                                          have hji29_ : (if (wrap64 ((rd x5_2 (ji26)) + 1)) < (rd x5_2 x6_1) then (wrap64 ((rd x5_2 (ji26)) + 1)) else (rd x5_2 x6_1)) = ji29 := hji29
                                          obtain ⟨y152, hy152⟩ : ∃ y_ : List Int, y_ = (x5_2.set (x6_1 : Int).toNat (ji29)) := ⟨_, rfl⟩
                                          replace H : (coins_fewest.l1 k2 l0 a1 y152 x6_1 lt (lt.length : Int) (wrap64 (x29_2 + 1))) = some r := by first | (rw [hy152]; with_reducible exact H) | (have H2_ := (Option.bind_some _ _).symm.trans H; rw [hy152]; with_reducible exact H2_) | (have H2_ := (Option.bind_some _ _).symm.trans H; with_reducible exact H2_) | with_reducible exact H | (rw [hy152]; exact H) | exact H
                                          have Ny152 := Aside0.mk hy152
                                          clear hy152
                                          have H' := Aside0.mk H
                                          clear H
                                          have p149 : 0 ≤ (x29_2 : Int) := of_decide_eq_true (by first | (with_reducible assumption) | assumption)
                                          have q149 : x29_2 < (lt.length : Int) := of_decide_eq_true (by first | (with_reducible assumption) | assumption)
                                          obtain ⟨ad149, e149, hx149_0⟩ := Kd.at_int HR148.out x29_2 p149 q149
                                          cases e149
                                          replace hx149_0 := (HB.out.cell (World.block_lt_of_cell? w _ hx149_0)).trans hx149_0
                                          replace p149 := eq_true p149
                                          replace q149 := eq_true q149
                                          try go_wp2
                                          have n0_ := Aside0.mk (Kd.R_drew HO_5.out)
                                          have n1_ := Aside0.mk (below_drew1 HB.out)
                                          clear HO_5
                                          clear HB
                                          have HO_5 := n0_
                                          have HB := n1_
                                          clear n0_ n1_
                                          have p150 : 0 ≤ (x6_1 : Int) := of_decide_eq_true (by first | (with_reducible assumption) | assumption)
                                          have q150 : x6_1 < (x5_2.length : Int) := of_decide_eq_true (by first | (with_reducible assumption) | assumption)
                                          obtain ⟨ad150, e150, hx150_0⟩ := Kd.at_int (Kd.R_reads' HO_5.out).2.2 x6_1 p150 q150
                                          obtain rfl : (⟨go14, 0, none⟩ : Addr) = ad150 := (by injection e150)
                                          (first | simp only [add_plain] at hx150_0 | simp only [add_at] at hx150_0 | simp only [Addr.add, Nat.zero_add] at hx150_0 | skip)
                                          replace p150 := eq_true p150
                                          replace q150 := eq_true q150
                                          have p151 : 0 ≤ ((ji26) : Int) := of_decide_eq_true (by first | (with_reducible assumption) | assumption)
                                          have q151 : (ji26) < (x5_2.length : Int) := of_decide_eq_true (by first | (with_reducible assumption) | assumption)
                                          obtain ⟨ad151, e151, hx151_0⟩ := Kd.at_int (Kd.R_reads' HO_5.out).2.2 (ji26) p151 q151
                                          obtain rfl : (⟨go14, 0, none⟩ : Addr) = ad151 := (by injection e151)
                                          (first | simp only [add_plain] at hx151_0 | simp only [add_at] at hx151_0 | simp only [Addr.add, Nat.zero_add] at hx151_0 | skip)
                                          replace p151 := eq_true p151
                                          replace q151 := eq_true q151
                                          have p30 : 0 ≤ (x6_1 : Int) := of_decide_eq_true (by first | (with_reducible assumption) | assumption)
                                          have q30 : (x6_1 : Int) < ((x5_2.length : Int) : Int) := of_decide_eq_true (by first | (with_reducible assumption) | assumption)
                                          obtain ⟨hx30_0, hf30_0⟩ := Kd.R_celln 0 HO_5.out (x6_1 : Int) p30 q30
                                          replace p30 := eq_true p30
                                          replace q30 := eq_true q30
                                          have HP32 := Kd.R_putn HO_5.out (x6_1 : Int) ji29
                                          rw [← Ny152.out] at HP32
                                          have HQ32 := Aside0.mk HP32
                                          clear HP32
                                          refine start_ (n := 16) (S := fun w' => w'.cell? ⟨go14, (x6_1).toNat, none⟩ = some (.int .i64 (rd x5_2 x6_1)) ∧ w'.cell? ⟨go14, ((ji26)).toNat, none⟩ = some (.int .i64 (rd x5_2 (ji26)))) (ds := [15]) #[false, false, false, false, false, false, false, false, false, false, false, false, false, false, false, false] (by kernel_rfl) rfl rfl ⟨hx150_0, hx151_0⟩ (fun hHeld => ?_); refine with_tabW coins_fewest.tab10 coins_fewest.bits10 (fun HT_ HW_ => ?_)
                                          generalize wr.drew = w31 at HO_5 HB HQ32 hf30_0 hx150_0 hx151_0 hx30_0 hHeld ⊢
                                          refine pure_ (i := 0) (N := some 36) (v := ?_) (a' := ?_) #[true, false, false, false, false, false, false, false, false, false, false, false, false, false, false, false] rfl rfl (any_of HT_.out (by kernel_rfl)) (fun _ _ _ h => h) (Or.inl ⟨by rfl, ?_⟩) ?_ ?_
                                          rotate_left
                                          · intro w'
                                            go_simp
                                            with_reducible rfl
                                          rotate_left
                                          · simp only [Act.put, List.setIfInBounds_toArray, List.set_cons_zero, List.set_cons_succ, i64_w, i32_w]
                                            rfl
                                          refine pure_ (i := 1) (N := some 37) (v := ?_) (a' := ?_) #[true, true, false, false, false, false, false, false, false, false, false, false, false, false, false, false] rfl rfl (any_of HT_.out (by kernel_rfl)) (fun _ _ _ h => h) (Or.inl ⟨by rfl, ?_⟩) ?_ ?_
                                          rotate_left
                                          · intro w'
                                            go_simp
                                            with_reducible rfl
                                          rotate_left
                                          · simp only [Act.put, List.setIfInBounds_toArray, List.set_cons_zero, List.set_cons_succ, i64_w, i32_w]
                                            rfl
                                          refine pure_ (i := 2) (N := some 38) (v := ?_) (a' := ?_) #[true, true, true, false, false, false, false, false, false, false, false, false, false, false, false, false] rfl rfl (any_of HT_.out (by kernel_rfl)) (fun _ _ _ h => h) (Or.inl ⟨by rfl, ?_⟩) ?_ ?_
                                          rotate_left
                                          · intro w'
                                            go_simp
                                            with_reducible rfl
                                          rotate_left
                                          · simp only [Act.put, List.setIfInBounds_toArray, List.set_cons_zero, List.set_cons_succ, i64_w, i32_w]
                                            rfl
                                          refine pure_ (i := 3) (N := some 39) (v := ?_) (a' := ?_) #[true, true, true, true, false, false, false, false, false, false, false, false, false, false, false, false] rfl rfl (any_of HT_.out (by kernel_rfl)) (fun _ _ _ h => h) (Or.inl ⟨by rfl, ?_⟩) ?_ ?_
                                          rotate_left
                                          · intro w'
                                            go_simp
                                            with_reducible rfl
                                          rotate_left
                                          · simp only [Act.put, List.setIfInBounds_toArray, List.set_cons_zero, List.set_cons_succ, i64_w, i32_w]
                                            rfl
                                          refine pure_ (i := 4) (N := some 40) (v := ?_) (a' := ?_) #[true, true, true, true, true, false, false, false, false, false, false, false, false, false, false, false] rfl rfl (any_of HT_.out (by kernel_rfl)) (fun _ _ _ h => h) (Or.inl ⟨by rfl, ?_⟩) ?_ ?_
                                          rotate_left
                                          · intro w'
                                            go_simp
                                            with_reducible rfl
                                          rotate_left
                                          · simp only [Act.put, List.setIfInBounds_toArray, List.set_cons_zero, List.set_cons_succ, i64_w, i32_w]
                                            rfl
                                          refine pure_ (i := 6) (N := some 42) (v := ?_) (a' := ?_) #[true, true, true, true, true, false, true, false, false, false, false, false, false, false, false, false] rfl rfl (any_of HT_.out (by kernel_rfl)) (fun _ _ _ h => h) (Or.inl ⟨by rfl, ?_⟩) ?_ ?_
                                          rotate_left
                                          · intro w'
                                            go_simp
                                            with_reducible rfl
                                          rotate_left
                                          · simp only [Act.put, List.setIfInBounds_toArray, List.set_cons_zero, List.set_cons_succ, i64_w, i32_w]
                                            rfl
                                          refine pure_ (i := 7) (N := some 43) (v := ?_) (a' := ?_) #[true, true, true, true, true, false, true, true, false, false, false, false, false, false, false, false] rfl rfl (any_of HT_.out (by kernel_rfl)) (fun _ _ _ h => h) (Or.inl ⟨by rfl, ?_⟩) ?_ ?_
                                          rotate_left
                                          · intro w'
                                            go_simp
                                            with_reducible rfl
                                          rotate_left
                                          · simp only [Act.put, List.setIfInBounds_toArray, List.set_cons_zero, List.set_cons_succ, i64_w, i32_w]
                                            rfl
                                          refine pure_ (i := 8) (N := some 44) (v := ?_) (a' := ?_) #[true, true, true, true, true, false, true, true, true, false, false, false, false, false, false, false] rfl rfl (any_of HT_.out (by kernel_rfl)) (fun _ _ _ h => h) (Or.inl ⟨by rfl, ?_⟩) ?_ ?_
                                          rotate_left
                                          · intro w'
                                            go_simp
                                            with_reducible rfl
                                          rotate_left
                                          · simp only [Act.put, List.setIfInBounds_toArray, List.set_cons_zero, List.set_cons_succ, i64_w, i32_w]
                                            rfl
                                          refine pure_ (i := 9) (N := some 45) (v := ?_) (a' := ?_) #[true, true, true, true, true, false, true, true, true, true, false, false, false, false, false, false] rfl rfl (any_of HT_.out (by kernel_rfl)) (fun _ _ _ h => h) (Or.inl ⟨by rfl, ?_⟩) ?_ ?_
                                          rotate_left
                                          · intro w'
                                            go_simp
                                            with_reducible rfl
                                          rotate_left
                                          · simp only [Act.put, List.setIfInBounds_toArray, List.set_cons_zero, List.set_cons_succ, i64_w, i32_w]
                                            rfl
                                          refine pure_ (i := 10) (N := some 46) (v := ?_) (a' := ?_) #[true, true, true, true, true, false, true, true, true, true, true, false, false, false, false, false] rfl rfl (any_of HT_.out (by kernel_rfl)) (fun _ _ _ h => h) (Or.inl ⟨by rfl, ?_⟩) ?_ ?_
                                          rotate_left
                                          · intro w'
                                            go_simp
                                            with_reducible rfl
                                          rotate_left
                                          · simp only [Act.put, List.setIfInBounds_toArray, List.set_cons_zero, List.set_cons_succ, i64_w, i32_w]
                                            rfl
                                          refine take_ (i := 5) (N := some 41) (v := ?_) (a' := ?_) #[true, true, true, true, true, true, true, true, true, true, true, false, false, false, false, false] rfl rfl (take_ofW HT_.out HW_.out (by kernel_rfl)) (fun _ _ _ h => h) (Or.inl ⟨by rfl, ?_⟩) hHeld ?_ ?_
                                          rotate_left
                                          · rintro w' ⟨s0, s1⟩
                                            go_simp
                                            with_reducible rfl
                                          rotate_left
                                          · simp only [Act.put, List.setIfInBounds_toArray, List.set_cons_zero, List.set_cons_succ, i64_w, i32_w]
                                            rfl
                                          refine take_ (i := 11) (N := some 47) (v := ?_) (a' := ?_) #[true, true, true, true, true, true, true, true, true, true, true, true, false, false, false, false] rfl rfl (take_ofW HT_.out HW_.out (by kernel_rfl)) (fun _ _ _ h => h) (Or.inl ⟨by rfl, ?_⟩) hHeld ?_ ?_
                                          rotate_left
                                          · rintro w' ⟨s0, s1⟩
                                            go_simp
                                            with_reducible rfl
                                          rotate_left
                                          · simp only [Act.put, List.setIfInBounds_toArray, List.set_cons_zero, List.set_cons_succ, i64_w, i32_w]
                                            rfl
                                          refine pure_ (i := 12) (N := some 48) (v := ?_) (a' := ?_) #[true, true, true, true, true, true, true, true, true, true, true, true, true, false, false, false] rfl rfl (any_of HT_.out (by kernel_rfl)) (fun _ _ _ h => h) (Or.inl ⟨by rfl, ?_⟩) ?_ ?_
                                          rotate_left
                                          · intro w'
                                            go_simp
                                            with_reducible rfl
                                          rotate_left
                                          · simp only [Act.put, List.setIfInBounds_toArray, List.set_cons_zero, List.set_cons_succ, i64_w, i32_w]
                                            rfl
                                          refine pure_ (i := 13) (N := some 49) (v := ?_) (a' := ?_) #[true, true, true, true, true, true, true, true, true, true, true, true, true, true, false, false] rfl rfl (any_of HT_.out (by kernel_rfl)) (fun _ _ _ h => h) (Or.inl ⟨by rfl, ?_⟩) ?_ ?_
                                          rotate_left
                                          · intro w'
                                            go_simp
                                            with_reducible rfl
                                          rotate_left
                                          · simp only [Act.put, List.setIfInBounds_toArray, List.set_cons_zero, List.set_cons_succ, i64_w, i32_w]
                                            rfl
                                          refine pure_ (i := 14) (N := some 50) (v := ?_) (a' := ?_) #[true, true, true, true, true, true, true, true, true, true, true, true, true, true, true, false] rfl rfl (any_of HT_.out (by kernel_rfl)) (fun _ _ _ h => h) (Or.inl ⟨by rfl, ?_⟩) ?_ ?_
                                          rotate_left
                                          · intro w'
                                            go_simp
                                            with_reducible rfl
                                          rotate_left
                                          · simp only [Act.put, List.setIfInBounds_toArray, List.set_cons_zero, List.set_cons_succ, i64_w, i32_w]
                                            rfl
                                          refine last_ (i := 15) (N := none) #[true, true, true, true, true, true, true, true, true, true, true, true, true, true, true, true] rfl rfl (one_of HT_.out (by kernel_rfl)) (by decide) (fun K hK => ?_)
                                          refine skip_ (w1 := ?_) (by rfl) rfl ?_ ?_
                                          rotate_left
                                          · go_simp
                                            rfl
                                          refine hK.out _ _ ?_
                                          clear hK K
                                          refine done_ (done_of HT_.out (by kernel_rfl)) ?_
                                          try go_wp2
                                          (try simp only [← hl5_2])
                                          go_roundg k2
                                          case measure => have := HK1.out; have := HK2.out; omega
                                          case rel => exact ⟨(y152), (wrap64 (x29_2 + 1)), (by first | rfl | (simp; done) | (simp [*]; done)), H', ⟨by have := HK1.out; have := HK2.out; omega⟩, ⟨by (try simp only [hl5_2]); (with_reducible repeat (first | apply Kd.R_alloc | apply Kd.R_drewN | apply Kd.R_drew)); exact HQ32.out⟩, ⟨by repeat (first | (with_reducible first | exact HB.out | apply below_alloc | apply pw_below_drewN | apply below_drew1 | refine below_set ?_ GB14.out) | exact HB.out)⟩⟩
                                        · rw [if_neg c28] at H
                                          exact absurd H (by simp)
                                      · rw [if_neg c27] at H
                                        exact absurd H (by simp)
                                    · rw [if_neg c25] at H
                                      exact absurd H (by simp)
                                  · rw [if_neg c24] at H
                                    exact absurd H (by simp)
                              · rw [if_neg c22] at H
                                exact absurd H (by simp)
                            · rw [if_neg c21] at H
                              exact absurd H (by simp)
                          · rw [if_neg c20] at H
                            have c20b0 : decide (x29_2 < (lt.length : Int)) = false := decide_eq_false c20
                            clear c20
                            have H' := Aside0.mk H
                            clear H
                            go_wp2
                            (try simp only [← hl5_2])
                            go_roundg k2
                            case measure => have := HK1.out; have := HK2.out; omega
                            case rel => exact ⟨(x5_2), (wrap64 (x6_1 + 1)), (by first | rfl | (simp; done) | (simp [*]; done)), H', ⟨by have := HK1.out; have := HK2.out; omega⟩, ⟨by (try simp only [hl5_2]); (with_reducible repeat (first | apply Kd.R_alloc | apply Kd.R_drewN | apply Kd.R_drew)); exact HO_5.out⟩, ⟨by repeat (first | (with_reducible first | exact HB.out | apply below_alloc | apply pw_below_drewN | apply below_drew1) | exact HB.out)⟩⟩
                    · rw [if_neg c15] at H
                      exact absurd H (by simp)
                  · rw [if_neg c13] at H
                    exact absurd H (by simp)
                · rw [if_neg c12] at H
                  exact absurd H (by simp)
              · rw [if_neg c11] at H
                exact absurd H (by simp)
            · rw [if_neg c10] at H
              exact absurd H (by simp)
          · rw [if_neg c8] at H
            have c8b0 : decide (x6_1 ≤ a1) = false := decide_eq_false c8
            clear c8
            obtain rfl := Option.some.inj H
            go_wp2
            go_ret
            exact ⟨_, by first | rfl | (simp [errW_none, errW_some] <;> rfl) | (simp only [← hji3]; first | rfl | (simp [errW_none, errW_some] <;> rfl)) | (simp [*, errW_none, errW_some] <;> rfl), by (with_reducible repeat (first | apply Kd.R_alloc | apply Kd.R_drewN | apply Kd.R_drew)); exact HO_5.out, by repeat (first | (with_reducible first | exact HB.out | apply below_alloc | apply pw_below_drewN | apply below_drew1) | exact HB.out)⟩
    · rw [if_neg c5] at H
      exact absurd H (by simp)
  · rw [if_neg c4] at H
    exact absurd H (by simp)

/-! ### coins_best: function 36 -/
/-- how many coins v the best change takes of what is left: d bounds the rounds -/
def coins_best.cnt (few : List Int) (v : Int) : Nat → Int → Nat
  | 0, _ => 0
  | d + 1, a => if v ≤ a ∧ rd few (a - v) + 1 = rd few a then coins_best.cnt few v d (a - v) + 1 else 0
def coins_best.bl (few : List Int) : List Int → Int → List Int × Int
  | [], a => ([], a)
  | v :: l, a => ((coins_best.cnt few v (coins_best.bl few l a).2.toNat (coins_best.bl few l a).2 : Int) :: (coins_best.bl few l a).1,
      (coins_best.bl few l a).2 - (coins_best.cnt few v (coins_best.bl few l a).2.toNat (coins_best.bl few l a).2 : Int) * v)
def coins_best.f (k : Nat) (l0 : List Int) (a1 : Int) : Option (List Int) :=
  (coins_fewest.f k l0 a1).bind fun few =>
  if l0.length ≤ 40 ∧ (∀ v ∈ l0, 1 ≤ v ∧ v ≤ 1000000) ∧ 0 ≤ a1 ∧ a1 ≤ 1000000 ∧ (few.length : Int) = a1 + 1 ∧ (∀ x ∈ few, 0 ≤ x ∧ x ≤ 1000000) then some (coins_best.bl few l0 a1).1 else none
theorem coins_best.mono : ∀ a0 a1 k, LeO (coins_best.f k a0 a1) (coins_best.f (k + 1) a0 a1) := fun _ _ k => LeO.bind (coins_fewest.mono _ _ k) (fun _ => LeO.refl _)

section
open Go.Shelf Go.Proofs.Ytgbalmjnjpfopaa.HBack
attribute [local go_sem] Oper.semAt_some
theorem coins_best.cnt_le (few : List Int) (v : Int) (hv : 1 ≤ v) : ∀ (d : Nat) (a : Int), 0 ≤ a → (coins_best.cnt few v d a : Int) * v ≤ a := by
  intro d
  induction d with
  | zero => intro a h; simp [coins_best.cnt]; exact h
  | succ d ih =>
    intro a h
    unfold coins_best.cnt
    split
    · rename_i hc
      have := ih (a - v) (by omega)
      rw [show ((coins_best.cnt few v d (a - v) + 1 : Nat) : Int) * v = (coins_best.cnt few v d (a - v) : Int) * v + v from by rw [Int.natCast_add, Int.add_mul]; simp]
      omega
    · simp; exact h
/-- more fuel than the amount tells the same -/
theorem coins_best.cnt_fuel (few : List Int) (v : Int) (hv : 1 ≤ v) : ∀ (d d' : Nat) (a : Int), a.toNat ≤ d → a.toNat ≤ d' → coins_best.cnt few v d a = coins_best.cnt few v d' a := by
  intro d
  induction d with
  | zero =>
    intro d' a h h'
    cases d' with
    | zero => rfl
    | succ d' => unfold coins_best.cnt; rw [if_neg (by omega)]
  | succ d ih =>
    intro d' a h h'
    cases d' with
    | zero => unfold coins_best.cnt; rw [if_neg (by omega)]
    | succ d' =>
      unfold coins_best.cnt
      by_cases hc : v ≤ a ∧ rd few (a - v) + 1 = rd few a
      · rw [if_pos hc, if_pos hc, ih d' (a - v) (by omega) (by omega)]
      · rw [if_neg hc, if_neg hc]
/-- how many are taken at the amount a -/
def coins_best.tk (few : List Int) (v a : Int) : Nat := coins_best.cnt few v a.toNat a
theorem coins_best.tk_le (few : List Int) (v a : Int) (hv : 1 ≤ v) (h : 0 ≤ a) : (coins_best.tk few v a : Int) * v ≤ a := coins_best.cnt_le few v hv _ a h
theorem coins_best.tk_yes (few : List Int) (v a : Int) (hv : 1 ≤ v) (h1 : v ≤ a) (h2 : rd few (a - v) + 1 = rd few a) : coins_best.tk few v a = coins_best.tk few v (a - v) + 1 := by
  unfold coins_best.tk
  obtain ⟨d, hd⟩ : ∃ d, a.toNat = d + 1 := ⟨a.toNat - 1, by omega⟩
  rw [hd]
  conv => lhs; unfold coins_best.cnt
  rw [if_pos ⟨h1, h2⟩, coins_best.cnt_fuel few v hv d (a - v).toNat (a - v) (by omega) (Nat.le_refl _)]
theorem coins_best.tk_no (few : List Int) (v a : Int) (h : ¬ (v ≤ a ∧ rd few (a - v) + 1 = rd few a)) : coins_best.tk few v a = 0 := by
  unfold coins_best.tk
  cases a.toNat with
  | zero => rfl
  | succ d => unfold coins_best.cnt; rw [if_neg h]
/-- a round of the outer loop -/
def coins_best.step {n : Nat} (few : List Int) (s : List Int × Int) (x : coins_greedy.GX n) : List Int × Int :=
  (s.1.set x.1.1.toNat (rd s.1 x.1.1 + coins_best.tk few x.1.2 s.2), s.2 - coins_best.tk few x.1.2 s.2 * x.1.2)
def coins_best.bf {n : Nat} (few : List Int) (a : Int) (pre : List (coins_greedy.GX n)) : List Int × Int := pre.foldl (coins_best.step few) (List.replicate n 0, a)
theorem coins_best.bf_snoc {n : Nat} (few : List Int) (a : Int) (pre : List (coins_greedy.GX n)) (x : coins_greedy.GX n) : coins_best.bf few a (pre ++ [x]) = coins_best.step few (coins_best.bf few a pre) x := by simp [coins_best.bf]
def coins_best.Ok (n : Nat) (a : Int) (s : List Int × Int) : Prop := s.1.length = n ∧ 0 ≤ s.2 ∧ s.2 ≤ a ∧ ∀ i, 0 ≤ rd s.1 i ∧ rd s.1 i ≤ a - s.2
theorem coins_best.rd_set (l : List Int) (i j : Int) (v : Int) (h0 : 0 ≤ i) (h1 : 0 ≤ j) (h : i < l.length) : rd (l.set i.toNat v) j = if i = j then v else rd l j := by
  unfold rd
  rw [List.getD_eq_getElem?_getD, List.getElem?_set, List.getD_eq_getElem?_getD]
  by_cases e : i = j
  · subst e
    rw [if_pos rfl, if_pos rfl, if_pos (by omega)]
    rfl
  · rw [if_neg (by omega), if_neg e]
theorem coins_best.step_ok {n : Nat} (few : List Int) (a : Int) (s : List Int × Int) (x : coins_greedy.GX n) (hn : 0 < n) (h : coins_best.Ok n a s) : coins_best.Ok n a (coins_best.step few s x) := by
  obtain ⟨h1, h2, h3, h4⟩ := h
  obtain ⟨x0, x1, x2, x3⟩ := x.2
  have x1' := x1 hn
  have t1 := coins_best.tk_le few x.1.2 s.2 x2 h2
  have t2 : (coins_best.tk few x.1.2 s.2 : Int) * 1 ≤ (coins_best.tk few x.1.2 s.2 : Int) * x.1.2 := Int.mul_le_mul_of_nonneg_left x2 (Int.natCast_nonneg _)
  have t3 := h4 x.1.1
  refine ⟨by simp only [coins_best.step, List.length_set]; exact h1, by simp only [coins_best.step]; omega, by simp only [coins_best.step]; omega, ?_⟩
  intro i
  have h5 := h4 i
  simp only [coins_best.step]
  have h6 : rd (s.1.set x.1.1.toNat (rd s.1 x.1.1 + coins_best.tk few x.1.2 s.2)) i = if x.1.1.toNat = i.toNat then rd s.1 x.1.1 + coins_best.tk few x.1.2 s.2 else rd s.1 i := by
    have := coins_best.rd_set s.1 x.1.1 (i.toNat : Int) (rd s.1 x.1.1 + coins_best.tk few x.1.2 s.2) x0 (by omega) (by omega)
    rw [show rd (s.1.set x.1.1.toNat (rd s.1 x.1.1 + coins_best.tk few x.1.2 s.2)) i = rd (s.1.set x.1.1.toNat (rd s.1 x.1.1 + coins_best.tk few x.1.2 s.2)) (i.toNat : Int) from by unfold rd; rw [Int.toNat_natCast], this]
    by_cases e : x.1.1 = (i.toNat : Int)
    · rw [if_pos e, if_pos (by omega)]
    · rw [if_neg e, if_neg (by omega)]
      unfold rd; rw [Int.toNat_natCast]
  rw [h6]
  split <;> omega
theorem coins_best.bf_ok {n : Nat} (few : List Int) (a : Int) (h0 : 0 ≤ a) (hn : 0 < n) (pre : List (coins_greedy.GX n)) : coins_best.Ok n a (coins_best.bf few a pre) := by
  have key : ∀ (pre : List (coins_greedy.GX n)) (s : List Int × Int), coins_best.Ok n a s → coins_best.Ok n a (pre.foldl (coins_best.step few) s) := by
    intro pre
    induction pre with
    | nil => exact fun s h => h
    | cons x pre ih => exact fun s h => ih _ (coins_best.step_ok few a s x hn h)
  refine key pre _ ⟨by simp, h0, Int.le_refl _, fun i => ?_⟩
  have : rd (List.replicate n (0 : Int)) i = 0 := by
    unfold rd
    rw [List.getD_eq_getElem?_getD, List.getElem?_replicate]
    split <;> rfl
  simp only [this]
  omega
/-- what the two variables hold when k rounds are over -/
def coins_best.bst (few : List Int) (l : List Int) (a : Int) (k : Nat) : List Int × Int := (List.replicate (l.length - k) 0 ++ (coins_best.bl few (l.drop (l.length - k)) a).1, (coins_best.bl few (l.drop (l.length - k)) a).2)
theorem coins_best.bl_len (few : List Int) (l : List Int) (a : Int) : (coins_best.bl few l a).1.length = l.length := by
  induction l with
  | nil => rfl
  | cons v l ih => simp [coins_best.bl, ih]
theorem coins_best.bst_zero (few : List Int) (l : List Int) (a : Int) : coins_best.bst few l a 0 = (List.replicate l.length 0, a) := by simp [coins_best.bst, coins_best.bl]
theorem coins_best.bst_all (few : List Int) (l : List Int) (a : Int) : coins_best.bst few l a l.length = coins_best.bl few l a := by simp [coins_best.bst]
theorem coins_best.bst_succ (few : List Int) (l : List Int) (a : Int) (k q : Nat) (hq : l.length - 1 - k = q) (hk : k < l.length) :
    coins_best.bst few l a (k + 1) = ((coins_best.bst few l a k).1.set q (rd (coins_best.bst few l a k).1 (q : Int) + coins_best.tk few (l[q]?.getD 0) (coins_best.bst few l a k).2), (coins_best.bst few l a k).2 - coins_best.tk few (l[q]?.getD 0) (coins_best.bst few l a k).2 * l[q]?.getD 0) := by
  subst hq
  have hd : l.drop (l.length - (k + 1)) = l[l.length - 1 - k]?.getD 0 :: l.drop (l.length - k) := by
    rw [List.drop_eq_getElem_cons (by omega), List.getElem?_eq_getElem (by omega)]
    have : l.length - (k + 1) = l.length - 1 - k := by omega
    simp only [this, Option.getD_some]
    rw [show l.length - 1 - k + 1 = l.length - k by omega]
  have hr : List.replicate (l.length - k) (0 : Int) = List.replicate (l.length - (k + 1)) 0 ++ [0] := by
    rw [show l.length - k = (l.length - (k + 1)) + 1 by omega, List.replicate_succ']
  have h0 : rd (coins_best.bst few l a k).1 ((l.length - 1 - k : Nat) : Int) = 0 := by
    unfold rd coins_best.bst
    rw [Int.toNat_natCast, List.getD_eq_getElem?_getD, List.getElem?_append_left (by simp; omega), List.getElem?_replicate, if_pos (by omega)]
    rfl
  rw [h0]
  simp only [coins_best.bst, hd, coins_best.bl]
  refine Prod.ext ?_ rfl
  simp only
  rw [hr, List.append_assoc, List.set_append_right _ _ (by simp; omega)]
  simp
  rw [show l.length - 1 - k - (l.length - (k + 1)) = 0 by omega]
  rfl
theorem coins_best.bf_upto (few : List Int) (l : List Int) (hv : ∀ v ∈ l, 1 ≤ v ∧ v ≤ 1000000) (a : Int) (k : Nat) (hk : k ≤ l.length) : coins_best.bf few a (upto (coins_greedy.gx l hv) k) = coins_best.bst few l a k := by
  induction k with
  | zero => rw [coins_best.bst_zero]; rfl
  | succ k ih =>
    rw [upto_succ, coins_best.bf_snoc, ih (by omega), coins_best.bst_succ few l a k _ rfl (by omega)]
    have h : coins_greedy.gx l hv k = ⟨(((l.length - 1 - k : Nat) : Int), l[l.length - 1 - k]), _⟩ := dif_pos (by omega)
    rw [h, List.getElem?_eq_getElem (by omega)]
    rfl

/-- what holds at the head of the inner loop: j coins have been taken, p is left -/
def coins_best.Inner (W0 : World) (n₀ m₀ fg fc len : Nat) (fcs : Array Value) (few ol : List Int) (am v : Int) (i : Nat) (kq : Nat) (wr : World) : Prop :=
  ∃ (j p : Nat), am - (j : Int) * v = (p : Int) ∧ coins_best.tk few v (p : Int) + j = coins_best.tk few v am ∧ p < kq ∧
    Boxed wr n₀ 3 (.int .i64 (p : Int)) ∧ Blk wr (m₀ + 1) 3 ((ol.set i (rd ol (i : Int) + (j : Int))).map (.int .i64)) ∧
    Boxed wr (m₀ + 2) 22 (.slice (some ⟨m₀ + 1, 0, none⟩) len len) ∧ Boxed wr m₀ 22 (.slice (some ⟨fg, 0, none⟩) few.length fc) ∧ Blk wr fg 3 fcs.toList ∧
    Below n₀ W0 wr ∧ KeepsOthers W0 wr ∧ wr.heap[m₀ + 3]? = W0.heap[m₀ + 3]?

set_option maxRecDepth 100000 in
set_option maxHeartbeats 4000000 in
theorem coins_best.walk (k : Nat) (A0 : Option Addr) (c0 : Nat) (l0 : List Int) (a1 : Int) (few : List Int) (w : World) (hr0 : Kd.C (Kd.int .i64) w A0 l0.length l0) (hc0 : l0.length ≤ c0) (hfew : coins_fewest.f k l0 a1 = some few) (hlen : l0.length ≤ 40) (hv : ∀ v ∈ l0, 1 ≤ v ∧ v ≤ 1000000) (ha : 0 ≤ a1) (ha1 : a1 ≤ 1000000) (hfl : (few.length : Int) = a1 + 1) (hfb : ∀ x ∈ few, 0 ≤ x ∧ x ≤ 1000000) :
    Calls Try.prog 36 #[.slice A0 l0.length c0, .int .i64 a1] w fun e w' => ∃ v0_ : Value, e = .returned (v0_) ∧ Kd.R (Kd.int .i64) 3 w' w.heap.size (fun _ => True) v0_ (coins_best.bl few l0 a1).1 ∧ Below w.heap.size w w' := by
  have hmk := @print_make Try.prog 22 3 .i64 8 Try.underlying22 info3 (by decide) l0.length (by omega)
  have HI := ints_of_C hr0
  have hr1 : Kd.C (Kd.int .i64) (w.alloc (.cells #[.int .i64 a1] 3)) A0 l0.length l0 := Kd.C_alloc hr0 _
  clear hr0
  refine (callsIn_wide (n := 5)).1 ?_
  refine callsIn_of_wp_marks Try.func36 rfl trivial ?_ rfl
  simp only [Try.ntmps36, List.size_toArray, List.length_cons, List.length_nil, Nat.reduceAdd, Nat.reduceSub, Array.replicate_succ, Array.replicate_zero, List.push_toArray, List.append_toArray, List.nil_append, List.cons_append]
  have HHI := Lib.hid HI
  have HV := Lib.hid hv
  have HFL := Lib.hid hfl
  have HFB := Lib.hid hfb
  have HFEW := Lib.hid hfew
  have HR1 := Lib.hid hr1
  clear HI hv hfl hfb hfew hr1
  gi_wp2_with (first | (refine ⟨trivial, ?_⟩; gi_at_call 38; refine (callsIn_wide.2 (coins_fewest.calls k A0 c0 l0 a1 few _ HR1.out hc0 HFEW.out)).mono ?_; rintro e w5 ⟨v5, rfl, hR5, hB5⟩; obtain ⟨fg, fc, rfl, fb, fl, fcs, fh⟩ := Kd.R_form hR5 (by have := HFL.out; omega); have HR5 := Lib.hid hR5; have HB5 := Lib.hid hB5; have FH := Lib.hid fh; clear hR5 hB5 fh) | (refine ⟨trivial, ?_⟩; gi_at_call 43; refine (back_in Fence.wide (5 - 1) trivial rfl _ _ _ _).mono ?_; rintro e w' ⟨rfl, rfl⟩))
  have hR5 := HR5.out
  have hB5 := HB5.out
  have fh := FH.out
  have FC : ∀ q : Nat, q < few.length → fcs.toList[q]? = some (.int .i64 (rd few (q : Int))) := by
    intro q hq
    have h1 := (Kd.R_cell (0 : Int) hR5 (q : Int) (by omega) (by omega)).1
    rw [Int.toNat_natCast] at h1
    simp only [World.cell?, fh] at h1
    rw [Array.getElem?_toList]
    simpa [rdOf, rd] using h1
  clear FH HR5 HB5 hR5
  obtain ⟨n₀, hn₀⟩ : ∃ n₀, w.heap.size = n₀ := ⟨_, rfl⟩
  obtain ⟨m₀, hm₀⟩ : ∃ m₀, w5.heap.size = m₀ := ⟨_, rfl⟩
  rw [World.size_alloc, hn₀] at fb
  rw [hm₀] at fl
  have hnm : n₀ + 1 ≤ m₀ := by have := hB5.size; rw [World.size_alloc, hn₀, hm₀] at this; exact this
  have bA5 : Boxed w5 n₀ 3 (.int .i64 a1) := by
    rw [← hn₀]
    exact (hB5.block _ (by simp)).trans (Boxed.new w 3 _)
  have bF5 : Blk w5 fg 3 fcs.toList := by unfold Blk; rw [Array.toArray_toList]; exact fh
  have hB5' : Below n₀ w w5 := by
    rw [← hn₀]
    exact ((Below.refl _ w).alloc (Nat.le_refl _) _).trans (hB5.mono (by simp))
  obtain ⟨W1, hW1⟩ : ∃ W1, (((w5.alloc (.cells #[.slice (some ⟨fg, 0, none⟩) few.length fc] 22)).alloc (.cells (madeCells #[.int .i64 0] l0.length) 3)).alloc (.cells #[.slice (some ⟨w5.heap.size + 1, 0, none⟩) l0.length l0.length] 22)).alloc (.cells #[.slice A0 l0.length c0] 22) = W1 := ⟨_, rfl⟩
  have bA : Boxed W1 n₀ 3 (.int .i64 a1) := by rw [← hW1]; exact (((bA5.alloc _).alloc _).alloc _).alloc _
  have bF : Blk W1 fg 3 fcs.toList := by rw [← hW1]; exact (((bF5.alloc _).alloc _).alloc _).alloc _
  have bV : Boxed W1 m₀ 22 (.slice (some ⟨fg, 0, none⟩) few.length fc) := by rw [← hW1, ← hm₀]; exact (((Boxed.new w5 22 _).alloc _).alloc _).alloc _
  have bC : Blk W1 (m₀ + 1) 3 ((List.replicate l0.length (0 : Int)).map (.int .i64)) := by
    rw [← hW1, ← hm₀]
    have h := blk_of_made (w5.alloc (.cells #[.slice (some ⟨fg, 0, none⟩) few.length fc] 22)) l0.length
    rw [World.size_alloc] at h
    exact (h.alloc _).alloc _
  have bO : Boxed W1 (m₀ + 2) 22 (.slice (some ⟨m₀ + 1, 0, none⟩) l0.length l0.length) := by
    rw [← hW1, ← hm₀]
    have h := Boxed.new ((w5.alloc (.cells #[.slice (some ⟨fg, 0, none⟩) few.length fc] 22)).alloc (.cells (madeCells #[.int .i64 0] l0.length) 3)) 22 (.slice (some ⟨w5.heap.size + 1, 0, none⟩) l0.length l0.length)
    rw [World.size_alloc, World.size_alloc] at h
    exact h.alloc _
  have bS : Boxed W1 (m₀ + 3) 22 (.slice A0 l0.length c0) := by
    rw [← hW1, ← hm₀]
    have h := Boxed.new (((w5.alloc (.cells #[.slice (some ⟨fg, 0, none⟩) few.length fc] 22)).alloc (.cells (madeCells #[.int .i64 0] l0.length) 3)).alloc (.cells #[.slice (some ⟨w5.heap.size + 1, 0, none⟩) l0.length l0.length] 22)) 22 (.slice A0 l0.length c0)
    rw [World.size_alloc, World.size_alloc, World.size_alloc] at h
    exact h
  have hB1 : Below n₀ w W1 := by
    rw [← hW1]
    exact (((hB5'.alloc (by omega) _).alloc (by simp; omega) _).alloc (by simp; omega) _).alloc (by simp; omega) _
  have hsz : W1.heap.size = m₀ + 4 := by rw [← hW1, ← hm₀]; simp
  have HI1 := HHI.out
  rw [hn₀] at HI1
  rw [hW1]
  simp only [hn₀, hm₀]
  refine wpIn_rangeFunc_ownG (α := coins_greedy.GX l0.length) (F := Fence.wide) (n := 5) rfl (by omega) (gf := 47) (lb := #[.pointer (some ⟨m₀ + 1 + 1 + 1, 0, none⟩)]) rfl trivial (enters_of Try.func47 (by kernel_rfl) rfl)
    (back_stops (fun x : coins_greedy.GX l0.length => #[Value.int .i64 x.1.1, Value.int .i64 x.1.2]) (coins_greedy.gx l0 HV.out) Fence.wide (5 - 1) trivial rfl (by omega) (m₀ + 3) n₀ A0 c0 l0 (by omega) W1 (by omega) (by omega) bS (HI1.below hB1) ?hg)
    (fun h k => h.trans k) (Kept.put (by omega) (by omega)) (Below.refl _ _) (fun _ => rfl)
    (fun pre W => (Boxed W n₀ 3 (.int .i64 (coins_best.bf few a1 pre).2) ∧ Blk W (m₀ + 1) 3 ((coins_best.bf few a1 pre).1.map (.int .i64)) ∧ Boxed W (m₀ + 2) 22 (.slice (some ⟨m₀ + 1, 0, none⟩) l0.length l0.length) ∧ Boxed W m₀ 22 (.slice (some ⟨fg, 0, none⟩) few.length fc) ∧ Blk W fg 3 fcs.toList) ∧ Below n₀ w W)
    (fun _ _ _ => False)
    (OwnFrom.and (OwnFrom.and (Own.from (boxed_own _ _ _) _) (OwnFrom.and (Own.from (blk_own _ _ _) _) (OwnFrom.and (Own.from (boxed_own (m₀ + 2) 22 (fun _ => .slice (some ⟨m₀ + 1, 0, none⟩) l0.length l0.length)) _) (OwnFrom.and (Own.from (boxed_own m₀ 22 (fun _ => .slice (some ⟨fg, 0, none⟩) few.length fc)) _) (Own.from (blk_own fg 3 (fun _ => fcs.toList)) _))))) (ownFrom_below (by omega) (by omega)))
    (fun _ _ _ _ _ hs _ _ => hs)
    ⟨⟨bA, bC, bO, bV, bF⟩, hB1⟩
    (fun x => { tmps := #[.slice A0 l0.length c0, .int .i64 a1, undef, .pointer (some ⟨n₀, 0, none⟩), .slice none 0 0, .pointer (some ⟨m₀, 0, none⟩), .pointer (some ⟨m₀ + 1 + 1, 0, none⟩), .int .i64 x.1.1, .int .i64 x.1.2, .slice A0 l0.length c0, .int .i64 a1, .slice (some ⟨fg, 0, none⟩) few.length fc, .slice A0 l0.length c0, .int .i64 (l0.length : Int), .slice (some ⟨m₀ + 1, 0, none⟩) l0.length l0.length, .slice A0 l0.length c0, .func (.func 47) #[] #[.pointer (some ⟨m₀ + 1 + 1 + 1, 0, none⟩)], .int .i64 x.1.1, .int .i64 x.1.2, undef, undef, undef, undef, undef, undef, undef, undef, undef, undef, undef, undef, undef, undef, undef, undef, undef, undef, undef, undef, undef, undef, undef, undef, undef, undef, undef], defers := [] }) ?assign ?body ?done ?stop
  case hg =>
    intro j hj
    have h : coins_greedy.gx l0 HV.out j = ⟨(((l0.length - 1 - j : Nat) : Int), l0[l0.length - 1 - j]), _⟩ := dif_pos hj
    rw [h, List.getElem?_eq_getElem (by omega)]
    rfl
  case assign =>
    intro l x W K hK
    gi_wp2
    exact hK
  case stop =>
    rintro D c pre W hD _ ⟨⟨⟩, _⟩
  case body =>
    rintro l pre x W ⟨⟨hA, hC, hO, hV, hF⟩, hB⟩ hpl
    obtain ⟨g1, g2, g3, g4⟩ := coins_best.bf_ok few a1 ha (by omega) pre
    obtain ⟨hx0, hx1, hx2, hx3⟩ := x.2
    have hx1' := hx1 (by omega)
    obtain ⟨i, hi⟩ : ∃ i : Nat, x.1.1 = i := ⟨x.1.1.toNat, by omega⟩
    have hil : i < l0.length := by omega
    have hil' : i < (coins_best.bf few a1 pre).1.length := by omega
    obtain ⟨ol, hol⟩ : ∃ ol, (coins_best.bf few a1 pre).1 = ol := ⟨_, rfl⟩
    obtain ⟨am, ham⟩ : ∃ am, (coins_best.bf few a1 pre).2 = am := ⟨_, rfl⟩
    obtain ⟨v, hv⟩ : ∃ v, x.1.2 = v := ⟨_, rfl⟩
    rw [hol] at g1 g4 hC hil'
    rw [ham] at g2 g3 g4 hA
    rw [hv] at hx2 hx3 ⊢
    rw [hi]
    have h40 := g4 (i : Int)
    have HXI := Lib.hid hi
    have HOL := Lib.hid hol
    have HAM := Lib.hid ham
    have HXV := Lib.hid hv
    have HG1 := Lib.hid g1
    have HFC := Lib.hid FC
    have HT := Lib.hid (coins_best.tk_le few v am hx2 g2)
    have hfl' := HFL.out
    clear hi hol ham hv g1 g4 hx0 hx1 hx1' FC bA bF bV bC bO bS hW1 hB1
    have hin : coins_best.Inner W n₀ m₀ fg fc l0.length fcs few ol am v i (am.toNat + 1) W := by
      refine ⟨0, am.toNat, by simp; omega, by simp [Int.toNat_of_nonneg g2], by omega, ?_, ?_, hO, hV, hF, Below.refl _ _, KeepsOthers.refl _, rfl⟩
      · rw [Int.toNat_of_nonneg g2]; exact hA
      · have : ol.set i (rd ol (i : Int) + ((0 : Nat) : Int)) = ol := by
          apply List.ext_getElem?
          intro y
          rw [List.getElem?_set]
          split
          · rename_i e
            subst e
            rw [List.getElem?_eq_getElem hil']
            simp [rd, List.getD_eq_getElem?_getD, hil']
          · rfl
        rw [this]; exact hC
    have HIN := Lib.hid hin
    clear hin hA hC hO hV hF
    gi_wp2
    gi_loopg [19] (am.toNat + 1) (fun kq _ wr => coins_best.Inner W n₀ m₀ fg fc l0.length fcs few ol am v i kq wr)
    case atStart => exact HIN.out
    case round =>
      clear HIN
      obtain ⟨j, p, hjp, htk, hpk, hA, hC, hO, hV, hF, hBW, hKW, hS⟩ := hrel
      have cA := hA.cell
      have fA := hA.frozen
      have cV := hV.cell
      have cO := hO.cell
      have hjn : (p : Int) ≤ am := by
        have := Int.mul_nonneg (Int.natCast_nonneg j) (show 0 ≤ v by omega)
        omega
      have HJP := Lib.hid hjp
      have HTK := Lib.hid htk
      clear hjp htk
      have hend : coins_best.tk few v (p : Int) = 0 → ∀ {m : Nat} {act : Act}, ownPostG W1.heap.size (Kept n₀ (m₀ + 3)) (fun pre W => (Boxed W n₀ 3 (.int .i64 (coins_best.bf few a1 pre).2) ∧ Blk W (m₀ + 1) 3 ((coins_best.bf few a1 pre).1.map (.int .i64)) ∧ Boxed W (m₀ + 2) 22 (.slice (some ⟨m₀ + 1, 0, none⟩) l0.length l0.length) ∧ Boxed W m₀ 22 (.slice (some ⟨fg, 0, none⟩) few.length fc) ∧ Blk W fg 3 fcs.toList) ∧ Below n₀ w W) (fun _ _ _ => False) (pre ++ [x]) W .normal act (wr.drewN m) := by
        intro h0 m act
        have hbf : coins_best.bf few a1 (pre ++ [x]) = (ol.set i (rd ol (i : Int) + (j : Int)), (p : Int)) := by
          rw [coins_best.bf_snoc]
          have h1 := HTK.out
          have h2 := HJP.out
          simp only [coins_best.step, HXI.out, HXV.out, HOL.out, HAM.out, Int.toNat_natCast]
          rw [show coins_best.tk few v am = j from by omega, h2]
        refine ⟨(hKW.trans (⟨Nat.le_refl _, fun _ _ h _ => h⟩ : KeepsOthers wr (wr.drewN m))).from _, ⟨pw_below_drewN hBW m, hS⟩, ?_, hB.trans (pw_below_drewN hBW m)⟩
        simp only [hbf]
        exact ⟨hA, hC, hO, hV, hF⟩
      have HEND := Lib.hid @hend
      clear hend
      by_cases h1 : v ≤ (p : Int)
      · obtain ⟨q, hq⟩ : ∃ q : Nat, (p : Int) - v = (q : Int) := ⟨((p : Int) - v).toNat, by omega⟩
        have hqp : q < p := by omega
        have hpf : p < few.length := by omega
        have hqf : q < few.length := by omega
        have c1 := Blk.cell_of hF (HFC.out q hqf)
        have c2 := Blk.cell_of hF (HFC.out p hpf)
        have b1 := HFB.out (rd few (q : Int)) (by unfold rd; rw [Int.toNat_natCast, List.getD_eq_getElem?_getD, List.getElem?_eq_getElem hqf]; exact List.getElem_mem hqf)
        have b2 := HFB.out (rd few (p : Int)) (by unfold rd; rw [Int.toNat_natCast, List.getD_eq_getElem?_getD, List.getElem?_eq_getElem hpf]; exact List.getElem_mem hpf)
        obtain ⟨fq, hfq⟩ : ∃ fq, rd few (q : Int) = fq := ⟨_, rfl⟩
        obtain ⟨fp, hfp⟩ : ∃ fp, rd few (p : Int) = fp := ⟨_, rfl⟩
        rw [hfq] at c1 b1
        rw [hfp] at c2 b2
        have HFQ := Lib.hid hfq
        have HFP := Lib.hid hfp
        have HQ := Lib.hid hq
        have hw1 : IntKind.i64.wrap ((p : Int) - v) = (q : Int) := by rw [IntWalk.i64_in _ (by omega)]; exact hq
        have hw2 : IntKind.i64.wrap (fq + 1) = fq + 1 := IntWalk.i64_in _ (by omega)
        have hd : decide (v ≤ (p : Int)) = true := decide_eq_true h1
        clear hfq hfp hq
        by_cases h2 : fq + 1 = fp
        · have hb2 : ((fq + 1) == fp) = true := beq_iff_eq.2 h2
          have hb3 : decide (fq + 1 = fp) = true := decide_eq_true h2
          have H2 := Lib.hid h2
          clear h2
          gi_wp2
          (refine Go.Proofs.Ytgbalmjnjpfopaa.HQuiet.region_quiet_lit (by kernel_rfl) (by kernel_rfl) (by kernel_rfl) ?_; (repeat (gi_big_quiet_step (fail))); refine wpQuietIn_nil ?_; intro _ hw'; obtain ⟨nq, hw''⟩ := hw'; subst hw'')
          obtain ⟨e, he⟩ : ∃ e, rd ol (i : Int) + (j : Int) = e := ⟨_, rfl⟩
          have hjv : (j : Int) * 1 ≤ (j : Int) * v := Int.mul_le_mul_of_nonneg_left hx2 (Int.natCast_nonneg _)
          have he1 : 0 ≤ e ∧ e ≤ 1000000 := by have := HJP.out; omega
          have cC : wr.cell? ⟨m₀ + 1, i, none⟩ = some (.int .i64 e) := by
            refine Blk.cell_of hC ?_
            rw [he, List.getElem?_map, List.getElem?_set, if_pos rfl, if_pos hil']
            rfl
          have fC := hC.frozen i
          have HE := Lib.hid he
          clear he hw1 hw2 hb2 hb3
          gi_wp2
          gi_roundg p
          case measure => exact hpk
          case rel =>
            have hh : ∀ k, k ≠ n₀ → k ≠ m₀ + 1 → (((wr.drewN nq).setCell ⟨m₀ + 1, i, none⟩ (.int .i64 (e + 1))).setCell ⟨n₀, 0, none⟩ (.int .i64 ((p : Int) - v))).heap[k]? = wr.heap[k]? := fun k h1 h2 => (Below.heap_setCell _ _ _ k h1).trans (Below.heap_setCell _ _ _ k h2)
            have hB3 : Below n₀ W (((wr.drewN nq).setCell ⟨m₀ + 1, i, none⟩ (.int .i64 (e + 1))).setCell ⟨n₀, 0, none⟩ (.int .i64 ((p : Int) - v))) := ((pw_below_drewN hBW nq).setCell (p := ⟨m₀ + 1, i, none⟩) (by simp; omega) _).setCell (p := ⟨n₀, 0, none⟩) (Nat.le_refl _) _
            have hK3 : KeepsOthers W (((wr.drewN nq).setCell ⟨m₀ + 1, i, none⟩ (.int .i64 (e + 1))).setCell ⟨n₀, 0, none⟩ (.int .i64 ((p : Int) - v))) := ((hKW.trans (⟨Nat.le_refl _, fun _ _ h _ => h⟩ : KeepsOthers wr (wr.drewN nq))).trans (KeepsOthers.setCell _ _ _)).trans (KeepsOthers.setCell _ _ _)
            have htk2 := coins_best.tk_yes few v (p : Int) hx2 h1 (by rw [HQ.out, HFQ.out, HFP.out]; exact H2.out)
            rw [HQ.out] at htk2
            refine ⟨j + 1, q, ?_, by have := HTK.out; omega, hqp, ?_, ?_, (hh _ (by omega) (by omega)).trans hO, (hh _ (by omega) (by omega)).trans hV, (hh _ (by omega) (by omega)).trans hF, hB3, hK3, (hh _ (by omega) (by omega)).trans hS⟩
            · have := HJP.out
              have := HQ.out
              rw [show ((j + 1 : Nat) : Int) * v = (j : Int) * v + v from by rw [Int.natCast_add, Int.add_mul]; simp]
              omega
            · rw [← HQ.out]
              have h1 : Boxed ((wr.drewN nq).setCell ⟨m₀ + 1, i, none⟩ (.int .i64 (e + 1))) n₀ 3 (.int .i64 (p : Int)) := (Below.heap_setCell _ _ _ n₀ (by simp; omega)).trans hA
              exact h1.set _
            · have h1 : Blk ((wr.drewN nq).setCell ⟨m₀ + 1, i, none⟩ (.int .i64 (e + 1))) (m₀ + 1) 3 (((ol.set i (rd ol (i : Int) + (j : Int))).map (.int .i64)).set i (.int .i64 (e + 1))) := Blk.set (W := wr.drewN nq) hC i _
              have h2 : ((ol.set i (rd ol (i : Int) + (j : Int))).map (Value.int .i64)).set i (.int .i64 (e + 1)) = (ol.set i (rd ol (i : Int) + ((j + 1 : Nat) : Int))).map (.int .i64) := by
                rw [List.map_set, List.set_set, List.map_set, ← HE.out]
                rw [show rd ol (i : Int) + (j : Int) + 1 = rd ol (i : Int) + ((j + 1 : Nat) : Int) from by omega]
              rw [← h2]
              exact (Below.heap_setCell _ _ _ (m₀ + 1) (by simp; omega)).trans h1
        · have hb2 : ((fq + 1) == fp) = false := beq_eq_false_iff_ne.2 h2
          have hb3 : decide (fq + 1 = fp) = false := decide_eq_false h2
          gi_wp2
          (refine Go.Proofs.Ytgbalmjnjpfopaa.HQuiet.region_quiet_lit (by kernel_rfl) (by kernel_rfl) (by kernel_rfl) ?_; (repeat (gi_big_quiet_step (fail))); refine wpQuietIn_nil ?_; intro _ hw'; obtain ⟨nq, hw''⟩ := hw'; subst hw'')
          gi_wp2
          exact HEND.out (coins_best.tk_no few v (p : Int) (fun h => h2 (by have := h.2; rw [HQ.out, HFQ.out, HFP.out] at this; exact this)))
      · have hd : decide (v ≤ (p : Int)) = false := decide_eq_false h1
        gi_wp2
        (refine Go.Proofs.Ytgbalmjnjpfopaa.HQuiet.region_quiet_lit (by kernel_rfl) (by kernel_rfl) (by kernel_rfl) ?_; (repeat (gi_big_quiet_step (fail))); refine wpQuietIn_nil ?_; intro _ hw'; obtain ⟨nq, hw''⟩ := hw'; subst hw'')
        gi_wp2
        exact HEND.out (coins_best.tk_no few v (p : Int) (fun h => by have := h.1; omega))
  case done =>
    rintro D ys W hD rfl ⟨⟨hA, hC, hO, hV, hF⟩, hB⟩ hK
    have hOc := hO.cell
    gi_wp2
    refine ⟨by simp, .inl ⟨_, _, rfl, run_takeDeferred hK, ?_⟩⟩
    rw [coins_best.bf_upto few l0 HV.out a1 _ (Nat.le_refl _), coins_best.bst_all] at hC
    refine ⟨_, results_tmp rfl _ _ _, _, rfl, ?_, ?_⟩
    · have := R_of_blk (base := w.heap.size) (hC.kept (grownBy_putObj' W D (.deferred none)) (by intro e; cases e; omega)) (by omega) (by rw [coins_best.bl_len]; omega)
      rw [coins_best.bl_len] at this
      exact this
    · rw [hn₀]
      exact hB.trans (belowK_b (w := W1) (by omega) W D _ _ (by omega) hK rfl rfl)
set_option maxHeartbeats 400000 in
theorem coins_best.calls (k : Nat) (A0 : Option Addr) (c0 : Nat) (l0 : List Int) (a1 : Int) (r : List Int) (w : World) (hr0 : Kd.C (Kd.int .i64) w A0 l0.length l0) (hc0 : l0.length ≤ c0) (h : coins_best.f k l0 a1 = some r) :
    Calls Try.prog 36 #[.slice A0 l0.length c0, .int .i64 a1] w fun e w' => ∃ v0_ : Value, e = .returned (v0_) ∧ Kd.R (Kd.int .i64) 3 w' w.heap.size (fun _ => True) v0_ r ∧ Below w.heap.size w w' := by
  unfold coins_best.f at h
  obtain ⟨few, hf, h⟩ := Option.bind_eq_some_iff.1 h
  split at h
  · rename_i hc
    obtain rfl := Option.some.inj h
    exact coins_best.walk k A0 c0 l0 a1 few w hr0 hc0 hf hc.1 hc.2.1 hc.2.2.1 hc.2.2.2.1 hc.2.2.2.2.1 hc.2.2.2.2.2
  · cases h
end


/-! ### coins_Best: function 20 -/
def coins_Best.f (k : Nat) (l0 : List Int) (a1 : Int) : Option (List Int × Int) := (coins_looked.f k l0 a1 100000).bind fun t159 => (if t159 = 0 then ((coins_best.f k l0 a1).bind fun t160 => (some (t160, 0))) else (some (([] : List Int), t159)))
theorem coins_Best.mono : ∀ a0 a1 k, LeO (coins_Best.f k a0 a1) (coins_Best.f (k + 1) a0 a1) := by
  intro a0 a1 k
  unfold coins_Best.f
  repeat' first
      | (with_reducible exact coins_best.mono _ _ _)
      | (with_reducible exact coins_looked.mono _ _ _ _)
      | (with_reducible exact LeO.refl _)
      | (with_reducible exact LeO.none _)
      | (with_reducible refine LeO.ite ?_ ?_)
      | (with_reducible refine LeO.bind ?_ (fun _ => ?_))
      | exact coins_best.mono _ _ _
      | exact coins_looked.mono _ _ _ _
      | exact LeO.none _
      | refine LeO.ite ?_ ?_
      | refine LeO.bind ?_ (fun _ => ?_)
set_option maxHeartbeats 8000000 in
set_option maxRecDepth 100000 in
theorem coins_Best.calls (k : Nat) (A0 : Option Addr) (c0 : Nat) (l0 : List Int) (a1 : Int) (r1 : List Int) (r2 : Int) (w : World) (hr0 : Kd.C (Kd.int .i64) w A0 l0.length l0) (hc0 : l0.length ≤ c0) (h : coins_Best.f k l0 a1 = some (r1, r2)) :
    Calls Try.prog 20 #[.slice A0 l0.length c0, .int .i64 a1] w fun e w' => ∃ v0_ : Value, e = .returned (.tuple #[v0_, .int .i64 r2]) ∧ Kd.R (Kd.int .i64) 3 w' w.heap.size (fun _ => True) v0_ r1 ∧ Below w.heap.size w w' := by
  have HR0 := Aside0.mk hr0
  have HC0 := Aside0.mk hc0
  clear hr0 hc0
  have HB := Aside0.mk (Below.refl w.heap.size w)
  have H : ((coins_looked.f k l0 a1 100000).bind fun t159 => (if t159 = 0 then ((coins_best.f k l0 a1).bind fun t160 => (some (t160, 0))) else (some (([] : List Int), t159)))) = some (r1, r2) := h
  clear h
  replace H := Option.bind_eq_some_iff.mp H
  obtain ⟨t159, A30, H⟩ := H
  replace H : (if t159 = 0 then ((coins_best.f k l0 a1).bind fun t160 => (some (t160, 0))) else (some (([] : List Int), t159))) = some (r1, r2) := H
  have A3 := Aside0.mk A30
  clear A30
  by_cases c4 : t159 = 0
  · rw [if_pos c4] at H
    have c4b0 : (t159 == 0) = true := beq_iff_eq.mpr c4
    have c4b1 : (t159 != 0) = false := bne_eq_false_iff_eq.mpr c4
    clear c4
    replace H := Option.bind_eq_some_iff.mp H
    obtain ⟨t160, A50, H⟩ := H
    replace H : (some (t160, 0)) = some (r1, r2) := H
    have A5 := Aside0.mk A50
    clear A50
    simp only [Option.some.injEq, Prod.mk.injEq] at H
    obtain ⟨rfl, rfl⟩ := H
    go_enter Try.func20, Try.ntmps20
    go_wp2_with (first | ((with_reducible refine gate_callee (f := 30) rfl ?_); refine goesL_ (some 9) rfl rfl Try.func30 (by kernel_rfl) rfl #[.slice A0 l0.length c0, .int .i64 a1, .int .i64 100000] rfl (by (try simp only [List.map_toArray, List.map_cons, List.map_nil]); first | done | rfl | (simp only [List.length_drop, List.length_take]; rfl)) ?_; (with_reducible refine (coins_looked.calls k _ _ l0 a1 100000 t159 _ ?side1 ?side2 A3.out).mono ?_); (case side1 => repeat (first | exact HR0.out | (with_reducible refine Kd.C_alloc ?_ _) | (with_reducible refine Kd.C_drewN ?_ _) | (with_reducible refine Kd.C_drew ?_))); (case side2 => exact HC0.out); rintro e w' ⟨rfl, ⟨nd, rfl⟩⟩; refine ⟨_, rfl, ?_⟩) | ((with_reducible refine gate_callee (f := 36) rfl ?_); refine goesL_ (some 15) rfl rfl Try.func36 (by kernel_rfl) rfl #[.slice A0 l0.length c0, .int .i64 a1] rfl (by (try simp only [List.map_toArray, List.map_cons, List.map_nil]); first | done | rfl | (simp only [List.length_drop, List.length_take]; rfl)) ?_; (with_reducible refine (coins_best.calls k _ _ l0 a1 t160 _ ?side1 ?side2 A5.out).mono ?_); (case side1 => repeat (first | exact HR0.out | (with_reducible refine Kd.C_alloc ?_ _) | (with_reducible refine Kd.C_drewN ?_ _) | (with_reducible refine Kd.C_drew ?_))); (case side2 => exact HC0.out); rintro e w6 ⟨v161, rfl, ho0, hb⟩; refine ⟨_, rfl, ?_⟩; have n0_ := Aside0.mk (Kd.R_lower ho0 (below_size (by repeat (first | (with_reducible first | exact HB.out | apply below_alloc | apply pw_below_drewN | apply below_drew1) | exact HB.out)))); have n1_ := Aside0.mk (below_step (by repeat (first | (with_reducible first | exact HB.out | apply below_alloc | apply pw_below_drewN | apply below_drew1) | exact HB.out)) hb); clear HB; have HO162 := n0_; have HB := n1_; clear n0_ n1_; (try clear hb); (try clear hb2); (try clear hk); (try clear hi); (try clear ho0)))
    go_ret2
    exact ⟨_, by first | rfl | (simp [errW_none, errW_some] <;> rfl) | (simp [*, errW_none, errW_some] <;> rfl), by (with_reducible repeat (first | apply Kd.R_alloc | apply Kd.R_drewN | apply Kd.R_drew)); exact HO162.out, by repeat (first | (with_reducible first | exact HB.out | apply below_alloc | apply pw_below_drewN | apply below_drew1) | exact HB.out)⟩
  · rw [if_neg c4] at H
    have c4b0 : (t159 == 0) = false := beq_eq_false_iff_ne.mpr c4
    have c4b1 : (t159 != 0) = true := bne_iff_ne.mpr c4
    simp only [Option.some.injEq, Prod.mk.injEq] at H
    obtain ⟨rfl, rfl⟩ := H
    go_enter Try.func20, Try.ntmps20
    go_wp2_with (first | ((with_reducible refine gate_callee (f := 30) rfl ?_); refine goesL_ (some 9) rfl rfl Try.func30 (by kernel_rfl) rfl #[.slice A0 l0.length c0, .int .i64 a1, .int .i64 100000] rfl (by (try simp only [List.map_toArray, List.map_cons, List.map_nil]); first | done | rfl | (simp only [List.length_drop, List.length_take]; rfl)) ?_; (with_reducible refine (coins_looked.calls k _ _ l0 a1 100000 t159 _ ?side1 ?side2 A3.out).mono ?_); (case side1 => repeat (first | exact HR0.out | (with_reducible refine Kd.C_alloc ?_ _) | (with_reducible refine Kd.C_drewN ?_ _) | (with_reducible refine Kd.C_drew ?_))); (case side2 => exact HC0.out); rintro e w' ⟨rfl, ⟨nd, rfl⟩⟩; refine ⟨_, rfl, ?_⟩))
    go_ret2
    exact ⟨_, by first | rfl | (simp [errW_none, errW_some] <;> rfl) | (simp [*, errW_none, errW_some] <;> rfl), by first | exact Kd.R_nil _ _ _ _ _ | exact Kd.N_nil _ _ _ _ _ | exact Kd.V_nil _ _ _ _ _ | exact Kd.Q_nil _ _ _ _ _ | exact Kd.S_nil _ _ _ _ _, by repeat (first | (with_reducible first | exact HB.out | apply below_alloc | apply pw_below_drewN | apply below_drew1) | exact HB.out)⟩

/-! ### bits_Mul32: function 48 -/
def bits_Mul32.f (a0 : Int) (a1 : Int) : Option (Int × Int) := some (((IntKind.u64.wrap ((IntKind.u64.wrap (a0)) * (IntKind.u64.wrap (a1)))) / 4294967296) % 4294967296, (IntKind.u64.wrap ((IntKind.u64.wrap (a0)) * (IntKind.u64.wrap (a1)))) % 4294967296)
set_option maxHeartbeats 8000000 in
set_option maxRecDepth 100000 in
theorem bits_Mul32.calls (a0 : Int) (a1 : Int) (r1 : Int) (r2 : Int) (w : World) (h : bits_Mul32.f a0 a1 = some (r1, r2)) :
    Calls Try.prog 48 #[.int .u32 a0, .int .u32 a1] w fun e w' => e = .returned (.tuple #[.int .u32 r1, .int .u32 r2]) ∧ Drawn0 w w' := by
  have H : (some (((IntKind.u64.wrap ((IntKind.u64.wrap (a0)) * (IntKind.u64.wrap (a1)))) / 4294967296) % 4294967296, (IntKind.u64.wrap ((IntKind.u64.wrap (a0)) * (IntKind.u64.wrap (a1)))) % 4294967296)) = some (r1, r2) := h
  clear h
  simp only [Option.some.injEq, Prod.mk.injEq] at H
  obtain ⟨rfl, rfl⟩ := H
  go_enter Try.func48, Try.ntmps48
  go_wp2
  go_ret2
  exact ⟨by first | rfl | (simp; done) | (simp [*]; done), by repeat (first | exact Drawn0.refl _ | apply Drawn0.step)⟩

/-! ### bits_Mul64: function 49 -/
def bits_Mul64.f (a0 : Int) (a1 : Int) : Option (Int × Int) := some (IntKind.u64.wrap ((IntKind.u64.wrap ((IntKind.u64.wrap ((a0 / 4294967296) * (a1 / 4294967296))) + ((IntKind.u64.wrap ((IntKind.u64.wrap ((a0 / 4294967296) * (Go.bits .and .u64 a1 4294967295))) + ((IntKind.u64.wrap ((Go.bits .and .u64 a0 4294967295) * (Go.bits .and .u64 a1 4294967295))) / 4294967296))) / 4294967296))) + ((IntKind.u64.wrap ((Go.bits .and .u64 (IntKind.u64.wrap ((IntKind.u64.wrap ((a0 / 4294967296) * (Go.bits .and .u64 a1 4294967295))) + ((IntKind.u64.wrap ((Go.bits .and .u64 a0 4294967295) * (Go.bits .and .u64 a1 4294967295))) / 4294967296))) 4294967295) + (IntKind.u64.wrap ((Go.bits .and .u64 a0 4294967295) * (a1 / 4294967296))))) / 4294967296)), IntKind.u64.wrap (a0 * a1))
set_option maxHeartbeats 8000000 in
set_option maxRecDepth 100000 in
theorem bits_Mul64.calls (a0 : Int) (a1 : Int) (r1 : Int) (r2 : Int) (w : World) (h : bits_Mul64.f a0 a1 = some (r1, r2)) :
    Calls Try.prog 49 #[.int .u64 a0, .int .u64 a1] w fun e w' => e = .returned (.tuple #[.int .u64 r1, .int .u64 r2]) ∧ Drawn0 w w' := by
  have H : (some (IntKind.u64.wrap ((IntKind.u64.wrap ((IntKind.u64.wrap ((a0 / 4294967296) * (a1 / 4294967296))) + ((IntKind.u64.wrap ((IntKind.u64.wrap ((a0 / 4294967296) * (Go.bits .and .u64 a1 4294967295))) + ((IntKind.u64.wrap ((Go.bits .and .u64 a0 4294967295) * (Go.bits .and .u64 a1 4294967295))) / 4294967296))) / 4294967296))) + ((IntKind.u64.wrap ((Go.bits .and .u64 (IntKind.u64.wrap ((IntKind.u64.wrap ((a0 / 4294967296) * (Go.bits .and .u64 a1 4294967295))) + ((IntKind.u64.wrap ((Go.bits .and .u64 a0 4294967295) * (Go.bits .and .u64 a1 4294967295))) / 4294967296))) 4294967295) + (IntKind.u64.wrap ((Go.bits .and .u64 a0 4294967295) * (a1 / 4294967296))))) / 4294967296)), IntKind.u64.wrap (a0 * a1))) = some (r1, r2) := h
  clear h
  simp only [Option.some.injEq, Prod.mk.injEq] at H
  obtain ⟨rfl, rfl⟩ := H
  go_enter Try.func49, Try.ntmps49
  go_wp2
  go_ret2
  exact ⟨by first | rfl | (simp; done) | (simp [*]; done), by repeat (first | exact Drawn0.refl _ | apply Drawn0.step)⟩

/-! ### bits_Mul: function 46 -/
def bits_Mul.f (a0 : Int) (a1 : Int) : Option (Int × Int) := (bits_Mul64.f a0 a1).bind fun bt163 => (some (bt163.1, bt163.2))
set_option maxHeartbeats 8000000 in
set_option maxRecDepth 100000 in
theorem bits_Mul.calls (a0 : Int) (a1 : Int) (r1 : Int) (r2 : Int) (w : World) (h : bits_Mul.f a0 a1 = some (r1, r2)) :
    Calls Try.prog 46 #[.int .u64 a0, .int .u64 a1] w fun e w' => e = .returned (.tuple #[.int .u64 r1, .int .u64 r2]) ∧ Drawn0 w w' := by
  have H : ((bits_Mul64.f a0 a1).bind fun bt163 => (some (bt163.1, bt163.2))) = some (r1, r2) := h
  clear h
  replace H := Option.bind_eq_some_iff.mp H
  obtain ⟨⟨t163, t164⟩, A30, H⟩ := H
  replace H : (some (t163, t164)) = some (r1, r2) := H
  have A3 := Aside0.mk A30
  clear A30
  simp only [Option.some.injEq, Prod.mk.injEq] at H
  obtain ⟨rfl, rfl⟩ := H
  go_enter Try.func46, Try.ntmps46
  go_wp2_with (first | ((with_reducible refine gate_callee (f := 49) rfl ?_); refine goesL_ (some 25) rfl rfl Try.func49 (by kernel_rfl) rfl #[.int .u64 a0, .int .u64 a1] rfl (by (try simp only [List.map_toArray, List.map_cons, List.map_nil]); first | done | rfl | (simp only [List.length_drop, List.length_take]; rfl)) ?_; (with_reducible refine (bits_Mul64.calls a0 a1 t163 t164 _ A3.out).mono ?_); rintro e w' ⟨rfl, ⟨nd, rfl⟩⟩; refine ⟨_, rfl, ?_⟩))
  go_ret2
  exact ⟨by first | rfl | (simp; done) | (simp [*]; done), by repeat (first | exact Drawn0.refl _ | apply Drawn0.step)⟩

/-! ### slices_Repeat_int_int: function 42 -/
/-- slices.Repeat of a slice of one element, some times -/
def slices_Repeat_int_int.f (k : Nat) (l0 : List Int) (a1 : Int) : Option (List Int) :=
  if l0.length = 1 ∧ 1 ≤ a1 ∧ a1 ≤ 1000000 then some (List.replicate a1.toNat (rd l0 0)) else none
theorem slices_Repeat_int_int.mono : ∀ a0 a1 k, LeO (slices_Repeat_int_int.f k a0 a1) (slices_Repeat_int_int.f (k + 1) a0 a1) := fun _ _ _ => LeO.refl _

section
open Go.Proofs.Ytgbalmjnjpfopaa.HBack
theorem slices_Repeat_int_int.u64_wrap (n : Int) (h0 : 0 ≤ n) (h1 : n < 18446744073709551616) : IntKind.u64.wrap n = n := by
  simp [IntKind.wrap, IntKind.bits, IntKind.signed]; omega
theorem slices_Repeat_int_int.mask (c : Int) (h0 : 0 ≤ c) (hc : c < 1000000000) : Go.bits .and .u64 c 4294967295 = c := by
  have h := bits_mask .u64 33 (by decide) (fun n a b => slices_Repeat_int_int.u64_wrap n a (by omega)) 32 (by decide) c h0 (by omega)
  rw [show ((2 : Int) ^ 32 - 1) = 4294967295 from by decide] at h
  rw [h]
  omega
theorem slices_Repeat_int_int.mul (c : Int) (h0 : 0 ≤ c) (hc : c ≤ 1000000) : bits_Mul.f 1 c = some (0, c) := by
  have e1 := slices_Repeat_int_int.mask c h0 (by omega)
  have e2 := slices_Repeat_int_int.mask 1 (by omega) (by omega)
  have e3 := slices_Repeat_int_int.mask 0 (by omega) (by omega)
  have d1 : c / 4294967296 = 0 := by omega
  have d2 : (1 : Int) / 4294967296 = 0 := by decide
  have d3 : (0 : Int) / 4294967296 = 0 := by decide
  have w1 := slices_Repeat_int_int.u64_wrap c h0 (by omega)
  have w0 := slices_Repeat_int_int.u64_wrap 0 (by omega) (by omega)
  unfold bits_Mul.f bits_Mul64.f
  simp only [e1, e2, d1, d2, Int.zero_mul, Int.mul_zero, Int.one_mul, w0, w1, d3, Int.zero_add, Int.add_zero, e3, Option.bind_some]
set_option maxRecDepth 100000 in
set_option maxHeartbeats 400000 in
theorem slices_Repeat_int_int.walk (A0 : Option Addr) (c0 : Nat) (x : Int) (c : Nat) (w : World) (hr0 : Kd.C (Kd.int .i64) w A0 1 [x]) (hc0 : 1 ≤ c0) (h1 : 1 ≤ c) (hc : c ≤ 1000000) :
    Calls Try.prog 42 #[.slice A0 1 c0, .int .i64 (c : Int)] w fun e w' => ∃ v0_ : Value, e = .returned (v0_) ∧ Kd.R (Kd.int .i64) 3 w' w.heap.size (fun _ => True) v0_ (List.replicate c x) ∧ Below w.heap.size w w' := by
  have hmk := @print_make Try.prog 22 3 .i64 8 Try.underlying22 info3 (by decide) c (by omega)
  obtain ⟨ad, e, hx⟩ := Kd.at_int hr0 0 (by omega) (by omega)
  subst e
  clear hr0
  have hm := slices_Repeat_int_int.mul (c : Int) (by omega) (by omega)
  have HM := Lib.hid hm
  clear hm
  have d1 : decide ((c : Int) < 0) = false := decide_eq_false (by omega)
  have d2 : decide ((9223372036854775807 : Int) < (c : Int)) = false := decide_eq_false (by omega)
  have u1 := slices_Repeat_int_int.u64_wrap (c : Int) (by omega) (by omega)
  have u2 := slices_Repeat_int_int.u64_wrap 1 (by omega) (by omega)
  have u3 : IntKind.i64.wrap (c : Int) = (c : Int) := IntWalk.i64_in _ (by omega)
  go_enter Try.func42, Try.ntmps42
  go_wp2_with fail
  refine (bits_Mul.calls 1 (c : Int) 0 (c : Int) _ HM.out).mono ?_
  rintro e w' ⟨rfl, ⟨nd, rfl⟩⟩
  have s1 := blk_of_made (w.drewN nd) c
  have s2 : [Value.int IntKind.i64 x].length = Nat.min 1 c := (Nat.min_eq_left h1).symm
  have s3 : ∀ (j : Nat) (v : Value), [Value.int IntKind.i64 x][j]? = some v → ((w.drewN nd).alloc (Obj.cells (madeCells #[Value.int IntKind.i64 0] c) 3)).cell? (ad.add j) = some v := by
    intro j v hj
    cases j with
    | succ j => simp at hj
    | zero =>
      simp at hj
      subst hj
      have hb : Below w.heap.size w ((w.drewN nd).alloc (Obj.cells (madeCells #[Value.int IntKind.i64 0] c) 3)) := (pw_below_drewN (Below.refl _ w) nd).alloc (Nat.le_refl _) _
      exact (hb.cell (World.block_lt_of_cell? w _ hx)).trans hx
  have s6 : Below w.heap.size w ((w.drewN nd).alloc (Obj.cells (madeCells #[Value.int IntKind.i64 0] c) 3)) := (pw_below_drewN (Below.refl _ w) nd).alloc (Nat.le_refl _) _
  have S1 := Lib.hid s1
  have S2 := Lib.hid s2
  have S3 := Lib.hid s3
  have S6 := Lib.hid s6
  clear s1 s2 s3 s6 hx
  have hl : (List.map (Value.int .i64) (List.replicate c (0 : Int))).length = c := by simp
  have HL := Lib.hid hl
  clear hl
  go_wp2_with (first | ((with_reducible refine wpList_copy_splice rfl (.tmp 31) (.tmp 32) 22 22 rfl 3 Try.underlying22 (by kernel_rfl) (some ⟨w.heap.size, 0, none⟩) (some ad) c c 1 c0 rfl rfl w.heap.size 0 ((List.replicate c (0 : Int)).map (.int .i64)) 3 ?c1 [.int .i64 x] ?c2 ?c3 ?c4 ?c5 w.heap.size w ?c6 (Nat.le_refl _) ?_); (case c1 => exact S1.out); (case c2 => exact S2.out); (case c3 => exact fun _ => ⟨rfl, ad, rfl, S3.out⟩); (case c4 => have := HL.out; simp; omega); (case c5 => simp [Value.oneCell']); (case c6 => exact S6.out); intro w2 hw2 hB2) | fail)
  have HB2 := Lib.hid hB2
  clear hB2
  go_loopw [8] (fun n wr => ∃ m : Nat, 1 ≤ m ∧ m ≤ c ∧ n = .int .i64 (m : Int) ∧ Hid (Blk wr w.heap.size 3 ((List.replicate m x ++ List.replicate (c - m) (0 : Int)).map (.int .i64))) ∧ Hid (Below w.heap.size w wr)) (fun n _ => c - (intOf n).toNat)
  case atStart =>
    refine ⟨1, Nat.le_refl _, h1, rfl, Lib.hid ?_, HB2⟩
    have h := hw2.out
    unfold Blk
    rw [h]
    obtain ⟨d, rfl⟩ : ∃ d, c = d + 1 := ⟨c - 1, by omega⟩
    simp [splice, List.replicate_succ]
  case round =>
    obtain ⟨m, hm1, hm2, rfl, hBl, hBw⟩ := hrel
    by_cases hlt : m < c
    · have hd : decide ((m : Int) < (c : Int)) = true := decide_eq_true (by omega)
      go_wp2
      obtain ⟨d, hdm⟩ : ∃ d, Nat.min m (c - m) = d := ⟨_, rfl⟩
      have hd1 : 1 ≤ d := by have := Nat.min_def (n := m) (m := c - m); rw [← hdm]; show 1 ≤ min m (c - m); omega
      have hd2 : m + d ≤ c := by rw [← hdm]; have : min m (c - m) ≤ c - m := Nat.min_le_right _ _; show m + min m (c - m) ≤ c; omega
      have hd3 : d ≤ m := by rw [← hdm]; exact Nat.min_le_left _ _
      have k1 : wr.heap[w.heap.size]? = some (.cells ((List.replicate m x ++ List.replicate (c - m) (0 : Int)).map (Value.int .i64)).toArray 3 (0, 0)) := hBl.out
      have k2 : ((List.replicate d x).map (Value.int .i64)).length = Nat.min m (c - m) := by rw [hdm]; simp
      have k3 : ∀ (j : Nat) (v : Value), ((List.replicate d x).map (Value.int .i64))[j]? = some v → wr.cell? ((⟨w.heap.size, 0, none⟩ : Addr).add j) = some v := by
        intro j v hj
        obtain ⟨hl, hv⟩ := List.getElem?_eq_some_iff.1 hj
        simp at hl hv
        subst hv
        have : (⟨w.heap.size, 0, none⟩ : Addr).add j = ⟨w.heap.size, j, none⟩ := by
          unfold Addr.add
          split
          · rename_i h; rw [h]
          · simp
        rw [this]
        refine Blk.cell_of hBl.out ?_
        rw [List.getElem?_map, List.getElem?_append_left (by simp; omega), List.getElem?_replicate, if_pos (by omega)]
        rfl
      have K1 := Lib.hid k1
      have K2 := Lib.hid k2
      have K3 := Lib.hid k3
      have HDM := Lib.hid hdm
      clear k1 k2 k3 hdm
      have hcm : ¬ c = m := by omega
      go_region_law ((refine step_copy_splice rfl (.tmp 41) (.tmp 44) 22 22 rfl 3 Try.underlying22 (by kernel_rfl) (some ⟨w.heap.size, m, none⟩) (some ⟨w.heap.size, 0, none⟩) (c - m) (c - m) m c (by simp [Act.eval, Act.put]) (by simp [Act.eval, Act.put]) w.heap.size m ((List.replicate m x ++ List.replicate (c - m) (0 : Int)).map (.int .i64)) 3 K1.out ((List.replicate d x).map (.int .i64)) K2.out (fun _ => ⟨rfl, _, rfl, K3.out⟩) (by simp; omega) (by simp [Value.oneCell']) w.heap.size w (below_drew1 hBw.out) (Nat.le_refl _) ?_; intro w4 hg4 hb4))
      go_simp
      rw [show IntKind.i64.wrap ((m : Int) + (d : Int)) = ((m + d : Nat) : Int) from by rw [IntWalk.i64_in _ (by omega)]; simp]
      refine ⟨?rel, ?measure⟩
      case rel =>
        refine ⟨_, _, _, _, _, _, _, _, _, _, _, _, _, _, ⟨m + d, by omega, hd2, rfl, Lib.hid ?_, Lib.hid hb4⟩, rfl⟩
        have h := hg4.out
        unfold Blk
        rw [h]
        have e1 : splice ((List.replicate m x ++ List.replicate (c - m) (0 : Int)).map (Value.int .i64)) m ((List.replicate d x).map (Value.int .i64)) = (List.replicate (m + d) x ++ List.replicate (c - (m + d)) (0 : Int)).map (Value.int .i64) := by
          unfold splice
          rw [← List.map_take, ← List.map_drop, ← List.map_append, ← List.map_append]
          congr 1
          have t1 : (List.replicate m x ++ List.replicate (c - m) (0 : Int)).take m = List.replicate m x := by
            rw [List.take_append_of_le_length (by simp), List.take_of_length_le (by simp)]
          have t2 : (List.replicate m x ++ List.replicate (c - m) (0 : Int)).drop (m + ((List.replicate d x).map (Value.int .i64)).length) = List.replicate (c - (m + d)) 0 := by
            rw [List.drop_append, List.drop_of_length_le (by simp), List.nil_append, List.drop_replicate]
            simp
            omega
          rw [t1, t2, ← List.append_assoc, List.replicate_append_replicate]
        rw [e1]
      case measure => simp [intOf] <;> omega
    · obtain rfl : m = c := by omega
      have hd : decide ((m : Int) < (m : Int)) = false := decide_eq_false (by omega)
      go_wp2
      have hfin := R_of_blk (base := w.heap.size) hBl.out (Nat.le_refl _) (by simp; omega)
      simp only [Nat.sub_self, List.replicate_zero, List.append_nil, List.length_replicate] at hfin
      go_ret
      exact ⟨_, rfl, hfin, hBw.out⟩
set_option maxHeartbeats 400000 in
theorem slices_Repeat_int_int.calls (k : Nat) (A0 : Option Addr) (c0 : Nat) (l0 : List Int) (a1 : Int) (r : List Int) (w : World) (hr0 : Kd.C (Kd.int .i64) w A0 l0.length l0) (hc0 : l0.length ≤ c0) (h : slices_Repeat_int_int.f k l0 a1 = some r) :
    Calls Try.prog 42 #[.slice A0 l0.length c0, .int .i64 a1] w fun e w' => ∃ v0_ : Value, e = .returned (v0_) ∧ Kd.R (Kd.int .i64) 3 w' w.heap.size (fun _ => True) v0_ r ∧ Below w.heap.size w w' := by
  unfold slices_Repeat_int_int.f at h
  split at h
  · rename_i hc
    obtain rfl := Option.some.inj h
    obtain ⟨h1, h2, h3⟩ := hc
    obtain ⟨x, rfl⟩ := List.length_eq_one_iff.1 h1
    obtain ⟨c, rfl⟩ := Int.eq_ofNat_of_zero_le (show 0 ≤ a1 by omega)
    rw [Int.toNat_natCast]
    exact slices_Repeat_int_int.walk A0 c0 x c w hr0 hc0 (by omega) (by omega)
  · cases h
end


end Go.Proofs.Ytgbalmjnjpfopaa.PC
