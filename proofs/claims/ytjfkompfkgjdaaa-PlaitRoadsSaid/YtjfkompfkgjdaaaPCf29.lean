-- Printed by a program of this session (mkprint.sh, over the kit's print.py), with own proofs for the functions that the print does not take.
import Derived.Test.YtjfkompfkgjdaaaPCf54
import Derived.Test.YtjfkompfkgjdaaaPCf67
import Derived.Test.YtjfkompfkgjdaaaPCx0
namespace Go.Proofs.Ytjfkompfkgjdaaa.PC
open Go.RowKit Go.Proofs.YtjfkompfkgjdaaaW.PrintWords Go.Proofs.YtjfkompfkgjdaaaW.PrintLast Go.Proofs.YtjfkompfkgjdaaaW.PrintMore
attribute [local go_sem] max2_int min2_int max_two min_two max_three min_three max_four min_four   -- for this text's walks alone
set_option linter.unusedVariables false
set_option linter.unusedSimpArgs false

/-! ### plait_Closed: function 29 -/
attribute [local go_sem] plait_of.val0
mutual
def plait_Closed.l0 : Nat → List Int → List Bool → Int → Int → Int → Option (Int × Int)
  | 0, _, _, _, _, _ => none
  | k + 1, x4, x6, x7, x22, x23 => if x23 < x22 then (if 0 ≤ x23 then (if x23 < (x6.length : Int) then (if rdOf false x6 x23 = true then (plait_Closed.l0 k x4 x6 x7 x22 (wrap64 (x23 + 1))) else (plait_Closed.l1 k x4 x6 (wrap64 (x7 + 1)) x23 x22 x23)) else (none)) else (none)) else (some (x7, 0))
def plait_Closed.l1 : Nat → List Int → List Bool → Int → Int → Int → Int → Option (Int × Int)
  | 0, _, _, _, _, _, _ => none
  | k + 1, x4, x6, x7, x9, x22, x23 => if 0 ≤ x9 then (if x9 < (x6.length : Int) then (if rdOf false x6 x9 = true then (plait_Closed.l0 k x4 x6 x7 x22 (wrap64 (x23 + 1))) else (if x9 < (x4.length : Int) then (if 0 ≤ (rd x4 x9) then (if (rd x4 x9) < (x6.length : Int) then ((plait_diagram_down.f x4 (rd x4 x9)).bind fun t250 => (plait_Closed.l1 k x4 ((x6.set (x9 : Int).toNat true).set ((rd x4 x9) : Int).toNat true) x7 t250 x22 x23)) else (none)) else (none)) else (none))) else (none)) else (none)
end
def plait_Closed.f (k : Nat) (l0 : List Int) : Option (Int × Int) := (plait_of.f k l0).bind fun t240 => (if t240 = 0 then (if 0 ≤ (l0.length : Int) then (if ((l0.length : Int) : Int).toNat ≤ 281474976710656 then (plait_Closed.l0 k l0 (List.replicate ((l0.length : Int) : Int).toNat false) 0 (l0.length : Int) 0) else (none)) else (none)) else (some (0, t240)))
theorem plait_Closed.mono_l : ∀ k, (∀ y0 y1 y2 y3 y4, LeO (plait_Closed.l0 k y0 y1 y2 y3 y4) (plait_Closed.l0 (k + 1) y0 y1 y2 y3 y4)) ∧ (∀ y0 y1 y2 y3 y4 y5, LeO (plait_Closed.l1 k y0 y1 y2 y3 y4 y5) (plait_Closed.l1 (k + 1) y0 y1 y2 y3 y4 y5))
  | 0 => ⟨fun _ _ _ _ _ r h => by simp [plait_Closed.l0] at h, fun _ _ _ _ _ _ r h => by simp [plait_Closed.l1] at h⟩
  | k + 1 => by
    obtain ⟨ih0, ih1⟩ := plait_Closed.mono_l k
    refine ⟨?_, ?_⟩
    · intro y0 y1 y2 y3 y4
      unfold plait_Closed.l0
      repeat' first
      | (with_reducible exact ih0 _ _ _ _ _)
      | (with_reducible exact ih1 _ _ _ _ _ _)
      | (with_reducible exact plait_of.mono _ _)
      | (with_reducible exact LeO.refl _)
      | (with_reducible exact LeO.none _)
      | (with_reducible refine LeO.ite ?_ ?_)
      | (with_reducible refine LeO.bind ?_ (fun _ => ?_))
      | exact ih0 _ _ _ _ _
      | exact ih1 _ _ _ _ _ _
      | exact plait_of.mono _ _
      | exact LeO.none _
      | refine LeO.ite ?_ ?_
      | refine LeO.bind ?_ (fun _ => ?_)
    · intro y0 y1 y2 y3 y4 y5
      unfold plait_Closed.l1
      repeat' first
      | (with_reducible exact ih0 _ _ _ _ _)
      | (with_reducible exact ih1 _ _ _ _ _ _)
      | (with_reducible exact plait_of.mono _ _)
      | (with_reducible exact LeO.refl _)
      | (with_reducible exact LeO.none _)
      | (with_reducible refine LeO.ite ?_ ?_)
      | (with_reducible refine LeO.bind ?_ (fun _ => ?_))
      | exact ih0 _ _ _ _ _
      | exact ih1 _ _ _ _ _ _
      | exact plait_of.mono _ _
      | exact LeO.none _
      | refine LeO.ite ?_ ?_
      | refine LeO.bind ?_ (fun _ => ?_)
theorem plait_Closed.mono : ∀ a0 k, LeO (plait_Closed.f k a0) (plait_Closed.f (k + 1) a0) := by
  intro a0 k
  obtain ⟨ih0, ih1⟩ := plait_Closed.mono_l k
  unfold plait_Closed.f
  repeat' first
      | (with_reducible exact ih0 _ _ _ _ _)
      | (with_reducible exact ih1 _ _ _ _ _ _)
      | (with_reducible exact plait_of.mono _ _)
      | (with_reducible exact LeO.refl _)
      | (with_reducible exact LeO.none _)
      | (with_reducible refine LeO.ite ?_ ?_)
      | (with_reducible refine LeO.bind ?_ (fun _ => ?_))
      | exact ih0 _ _ _ _ _
      | exact ih1 _ _ _ _ _ _
      | exact plait_of.mono _ _
      | exact LeO.none _
      | refine LeO.ite ?_ ?_
      | refine LeO.bind ?_ (fun _ => ?_)
set_option maxHeartbeats 8000000 in
set_option maxRecDepth 100000 in
theorem plait_Closed.calls (k : Nat) (A0 : Option Addr) (c0 : Nat) (l0 : List Int) (r1 : Int) (r2 : Int) (w : World) (hr0 : Kd.C (Kd.int .i64) w A0 l0.length l0) (hc0 : l0.length ≤ c0) (h : plait_Closed.f k l0 = some (r1, r2)) :
    Calls Try.prog 29 #[.slice A0 l0.length c0] w fun e w' => e = .returned (.tuple #[.int .i64 r1, .int .i64 r2]) ∧ Below w.heap.size w w' := by
  have HR0 := Aside0.mk hr0
  have HC0 := Aside0.mk hc0
  clear hr0 hc0
  have HB := Aside0.mk (Below.refl w.heap.size w)
  have H : ((plait_of.f k l0).bind fun t240 => (if t240 = 0 then (if 0 ≤ (l0.length : Int) then (if ((l0.length : Int) : Int).toNat ≤ 281474976710656 then (plait_Closed.l0 k l0 (List.replicate ((l0.length : Int) : Int).toNat false) 0 (l0.length : Int) 0) else (none)) else (none)) else (some (0, t240)))) = some (r1, r2) := h
  clear h
  replace H := Option.bind_eq_some_iff.mp H
  obtain ⟨t240, A20, H⟩ := H
  replace H : (if t240 = 0 then (if 0 ≤ (l0.length : Int) then (if ((l0.length : Int) : Int).toNat ≤ 281474976710656 then (plait_Closed.l0 k l0 (List.replicate ((l0.length : Int) : Int).toNat false) 0 (l0.length : Int) 0) else (none)) else (none)) else (some (0, t240))) = some (r1, r2) := H
  have A2 := Aside0.mk A20
  clear A20
  by_cases c3 : t240 = 0
  · rw [if_pos c3] at H
    have c3b0 : (t240 == 0) = true := beq_iff_eq.mpr c3
    have c3b1 : (t240 != 0) = false := bne_eq_false_iff_eq.mpr c3
    clear c3
    by_cases c4 : 0 ≤ (l0.length : Int)
    · rw [if_pos c4] at H
      have c4b0 := eq_true c4
      have c4b1 : decide (0 ≤ (l0.length : Int)) = true := decide_eq_true c4
      clear c4
      by_cases c5 : ((l0.length : Int) : Int).toNat ≤ 281474976710656
      · rw [if_pos c5] at H
        have c5b0 := eq_true c5
        have c5b1 : decide (((l0.length : Int) : Int).toNat ≤ 281474976710656) = true := decide_eq_true c5
        clear c5
        obtain ⟨y241, hy241⟩ : ∃ y_ : List Bool, y_ = (List.replicate ((l0.length : Int) : Int).toNat false) := ⟨_, rfl⟩
        replace H : (plait_Closed.l0 k l0 y241 0 (l0.length : Int) 0) = some (r1, r2) := by first | (rw [hy241]; with_reducible exact H) | (have H2_ := (Option.bind_some _ _).symm.trans H; rw [hy241]; with_reducible exact H2_) | (have H2_ := (Option.bind_some _ _).symm.trans H; with_reducible exact H2_) | with_reducible exact H | (rw [hy241]; exact H) | exact H
        have Ny241 := Aside0.mk hy241
        clear hy241
        have H' := Aside0.mk H
        clear H
        go_enter Try.func29, Try.ntmps29
        go_wp2_with (first | ((with_reducible refine gate_callee (f := 54) rfl ?_); refine goesL_ (some 12) rfl rfl Try.func54 (by kernel_rfl) rfl #[.slice A0 l0.length c0] rfl (by (try simp only [List.map_toArray, List.map_cons, List.map_nil]); first | done | rfl | (simp only [List.length_drop, List.length_take]; rfl)) ?_; (with_reducible refine (plait_of.calls k _ _ l0 t240 _ ?side1 ?side2 A2.out).mono ?_); (case side1 => repeat (first | exact HR0.out | (with_reducible refine Kd.C_alloc ?_ _) | (with_reducible refine Kd.C_drewN ?_ _) | (with_reducible refine Kd.C_drew ?_))); (case side2 => exact HC0.out); rintro e w6 ⟨rfl, hb⟩; refine ⟨_, rfl, ?_⟩; have n0_ := Aside0.mk (below_step (by repeat (first | (with_reducible first | exact HB.out | apply below_alloc | apply pw_below_drewN | apply below_drew1) | exact HB.out)) hb); clear HB; have HB := n0_; clear n0_; (try clear hb); (try clear hb2); (try clear hk); (try clear hi)) | ((with_reducible refine gate_dst (N := 20) rfl ?_); refine Kd.R_make Kd.bool _ 4 rfl (N := 20) rfl 69 _ _ rfl (l0.length : Int) rfl rfl Try.underlying69 (.bool false) 1 info4 rfl (by decide) (by omega) false (ok := fun _ => True) (okp := fun _ => True) rfl (fun _ hk => hk) trivial (of_decide_eq_true (by first | (with_reducible assumption) | assumption)) (Nat.le_trans (Nat.mul_le_mul_right _ (of_decide_eq_true (by first | (with_reducible assumption) | assumption) : (l0.length : Int).toNat ≤ 281474976710656)) (by omega)) (Below.refl _ _) (Nat.le_refl _) ?_; intro v242 w7 ho8 hb hg_ hnew_; clear hg_ hnew_; (first | rw [← Ny241.out] at ho8 | (simp only [Int.reduceToNat] at ho8; rw [← Ny241.out] at ho8)); have n0_ := Aside0.mk (Kd.R_lower ho8 (below_size (by repeat (first | (with_reducible first | exact HB.out | apply below_alloc | apply pw_below_drewN | apply below_drew1) | exact HB.out)))); have n1_ := Aside0.mk (below_step (by repeat (first | (with_reducible first | exact HB.out | apply below_alloc | apply pw_below_drewN | apply below_drew1) | exact HB.out)) hb); clear HB; have HO243 := n0_; have HB := n1_; clear n0_ n1_; clear hb ho8))
        go_loopg [7, 23] k (fun kq v7 v23 w' => ∃ (x6_1 : List Bool) (x7_1 : Int) (x23_1 : Int), v7 = .int .i64 x7_1 ∧ v23 = .int .i64 x23_1 ∧ Aside0 (plait_Closed.l0 kq l0 x6_1 x7_1 (l0.length : Int) x23_1 = some (r1, r2)) ∧ Aside0 (kq ≤ k) ∧ Aside0 (Kd.R Kd.bool 4 w' w.heap.size (fun _ => True) v242 x6_1) ∧ Aside0 (Below w.heap.size w w'))
        case atStart => exact ⟨(y241), (0), (0), (by first | rfl | (simp; done) | (simp [*]; done)), (by first | rfl | (simp; done) | (simp [*]; done)), H', ⟨Nat.le_refl _⟩, ⟨by (with_reducible repeat (first | apply Kd.R_alloc | apply Kd.R_drewN | apply Kd.R_drew)); exact HO243.out⟩, ⟨by repeat (first | (with_reducible first | exact HB.out | apply below_alloc | apply pw_below_drewN | apply below_drew1) | exact HB.out)⟩⟩
        case round =>
          clear H'
          try clear c2
          try clear p2
          try clear c3
          try clear c3b0
          try clear c3b1
          try clear c4
          try clear c4b0
          try clear c4b1
          try clear c5
          try clear c5b0
          try clear c5b1
          obtain ⟨x6_1, x7_1, x23_1, rfl, rfl, HA, HK1, HO_6, HB⟩ := hrel
          cases gk with
          | zero => exact absurd HA.out (by simp [plait_Closed.l0])
          | succ k1 =>
            have H := HA.out
            clear HA
            simp only [plait_Closed.l0] at H
            by_cases c9 : x23_1 < (l0.length : Int)
            · rw [if_pos c9] at H
              have c9b0 : decide (x23_1 < (l0.length : Int)) = true := decide_eq_true c9
              clear c9
              by_cases c10 : 0 ≤ x23_1
              · rw [if_pos c10] at H
                have c10b0 : decide (0 ≤ x23_1) = true := decide_eq_true c10
                clear c10
                by_cases c11 : x23_1 < (x6_1.length : Int)
                · rw [if_pos c11] at H
                  have c11b0 : decide (x23_1 < (x6_1.length : Int)) = true := decide_eq_true c11
                  clear c11
                  obtain ⟨bq12, hbq12⟩ : ∃ b_ : Bool, b_ = (rdOf false x6_1 x23_1) := ⟨_, rfl⟩
                  replace H : (if bq12 = true then (plait_Closed.l0 k1 l0 x6_1 x7_1 (l0.length : Int) (wrap64 (x23_1 + 1))) else (plait_Closed.l1 k1 l0 x6_1 (wrap64 (x7_1 + 1)) x23_1 (l0.length : Int) x23_1)) = some (r1, r2) := by rw [← hbq12] at H; exact H
                  have Nbq12 := Aside0.mk hbq12
                  clear hbq12
                  by_cases c13 : bq12 = true
                  · subst c13
                    have H1 : (plait_Closed.l0 k1 l0 x6_1 x7_1 (l0.length : Int) (wrap64 (x23_1 + 1))) = some (r1, r2) := by rw [if_pos rfl] at H; exact H
                    clear H
                    have H := H1
                    clear H1
                    have H' := Aside0.mk H
                    clear H
                    obtain ⟨Ao14, co14, eo14⟩ := Kd.R_slice HO_6.out
                    subst eo14
                    have p244 : 0 ≤ (x23_1 : Int) := of_decide_eq_true (by first | (with_reducible assumption) | assumption)
                    have q244 : x23_1 < (x6_1.length : Int) := of_decide_eq_true (by first | (with_reducible assumption) | assumption)
                    obtain ⟨ad244, e244, hx244_0⟩ := Kd.at_bool (Kd.R_reads' HO_6.out).2.2 x23_1 p244 q244
                    (try rw [← Nbq12.out] at hx244_0)
                    cases e244
                    replace p244 := eq_true p244
                    replace q244 := eq_true q244
                    go_wp2
                    go_roundg k1
                    case measure => have := HK1.out; omega
                    case rel => exact ⟨(x6_1), (x7_1), (wrap64 (x23_1 + 1)), (by first | rfl | (simp; done) | (simp [*]; done)), (by first | rfl | (simp; done) | (simp [*]; done)), H', ⟨by have := HK1.out; omega⟩, ⟨by (with_reducible repeat (first | apply Kd.R_alloc | apply Kd.R_drewN | apply Kd.R_drew)); exact HO_6.out⟩, ⟨by repeat (first | (with_reducible first | exact HB.out | apply below_alloc | apply pw_below_drewN | apply below_drew1) | exact HB.out)⟩⟩
                  · replace c13 := Bool.eq_false_iff.mpr c13
                    subst c13
                    have H1 : (plait_Closed.l1 k1 l0 x6_1 (wrap64 (x7_1 + 1)) x23_1 (l0.length : Int) x23_1) = some (r1, r2) := by rw [if_neg (show ¬ (false = true) by decide)] at H; exact H
                    clear H
                    have H := H1
                    clear H1
                    have H' := Aside0.mk H
                    clear H
                    obtain ⟨Ao15, co15, eo15⟩ := Kd.R_slice HO_6.out
                    subst eo15
                    have p244 : 0 ≤ (x23_1 : Int) := of_decide_eq_true (by first | (with_reducible assumption) | assumption)
                    have q244 : x23_1 < (x6_1.length : Int) := of_decide_eq_true (by first | (with_reducible assumption) | assumption)
                    obtain ⟨ad244, e244, hx244_0⟩ := Kd.at_bool (Kd.R_reads' HO_6.out).2.2 x23_1 p244 q244
                    (try rw [← Nbq12.out] at hx244_0)
                    cases e244
                    replace p244 := eq_true p244
                    replace q244 := eq_true q244
                    go_wp2
                    go_loopg [9] k1 (fun kq v9 w' => ∃ (x6_2 : List Bool) (x9_2 : Int), v9 = .int .i64 x9_2 ∧ Aside0 (plait_Closed.l1 kq l0 x6_2 (wrap64 (x7_1 + 1)) x9_2 (l0.length : Int) x23_1 = some (r1, r2)) ∧ Aside0 (kq ≤ k1) ∧ Aside0 (Kd.R Kd.bool 4 w' w.heap.size (fun _ => True) (.slice (some ad244) x6_1.length co15) x6_2) ∧ Aside0 (Below w.heap.size w w'))
                    case atStart => exact ⟨(x6_1), (x23_1), (by first | rfl | (simp; done) | (simp [*]; done)), H', ⟨Nat.le_refl _⟩, ⟨by (with_reducible repeat (first | apply Kd.R_alloc | apply Kd.R_drewN | apply Kd.R_drew)); exact HO_6.out⟩, ⟨by repeat (first | (with_reducible first | exact HB.out | apply below_alloc | apply pw_below_drewN | apply below_drew1) | exact HB.out)⟩⟩
                    case round =>
                      clear H'
                      try clear c1
                      try clear q1
                      try clear c2
                      try clear p2
                      try clear q2
                      try clear hx2
                      try clear c3
                      try clear c3b0
                      try clear c3b1
                      try clear c4
                      try clear c4b0
                      try clear c4b1
                      try clear c5
                      try clear c5b0
                      try clear c5b1
                      try clear p6
                      try clear c9
                      try clear c9b0
                      try clear c10
                      try clear c10b0
                      try clear c11
                      try clear c11b0
                      try clear q12
                      try clear c13
                      try clear hx244_0
                      try clear p2
                      try clear p244
                      try clear q244
                      obtain ⟨x6_2, x9_2, rfl, HA, HK2, HO_6, HB⟩ := hrel
                      have hl6_2 := (Kd.R_reads' HO_6.out).1
                      rw [hl6_2] at HO_6
                      (try simp only [hl6_2])
                      cases gk with
                      | zero => exact absurd HA.out (by simp [plait_Closed.l1])
                      | succ k2 =>
                        have H := HA.out
                        clear HA
                        simp only [plait_Closed.l1] at H
                        by_cases c16 : 0 ≤ x9_2
                        · rw [if_pos c16] at H
                          have c16b0 : decide (0 ≤ x9_2) = true := decide_eq_true c16
                          clear c16
                          by_cases c17 : x9_2 < (x6_2.length : Int)
                          · rw [if_pos c17] at H
                            have c17b0 : decide (x9_2 < (x6_2.length : Int)) = true := decide_eq_true c17
                            clear c17
                            obtain ⟨bq18, hbq18⟩ : ∃ b_ : Bool, b_ = (rdOf false x6_2 x9_2) := ⟨_, rfl⟩
                            replace H : (if bq18 = true then (plait_Closed.l0 k2 l0 x6_2 (wrap64 (x7_1 + 1)) (l0.length : Int) (wrap64 (x23_1 + 1))) else (if x9_2 < (l0.length : Int) then (if 0 ≤ (rd l0 x9_2) then (if (rd l0 x9_2) < (x6_2.length : Int) then ((plait_diagram_down.f l0 (rd l0 x9_2)).bind fun t250 => (plait_Closed.l1 k2 l0 ((x6_2.set (x9_2 : Int).toNat true).set ((rd l0 x9_2) : Int).toNat true) (wrap64 (x7_1 + 1)) t250 (l0.length : Int) x23_1)) else (none)) else (none)) else (none))) = some (r1, r2) := by rw [← hbq18] at H; exact H
                            have Nbq18 := Aside0.mk hbq18
                            clear hbq18
                            by_cases c19 : bq18 = true
                            · subst c19
                              have H1 : (plait_Closed.l0 k2 l0 x6_2 (wrap64 (x7_1 + 1)) (l0.length : Int) (wrap64 (x23_1 + 1))) = some (r1, r2) := by rw [if_pos rfl] at H; exact H
                              clear H
                              have H := H1
                              clear H1
                              have H' := Aside0.mk H
                              clear H
                              have p245 : 0 ≤ (x9_2 : Int) := of_decide_eq_true (by first | (with_reducible assumption) | assumption)
                              have q245 : x9_2 < (x6_2.length : Int) := of_decide_eq_true (by first | (with_reducible assumption) | assumption)
                              obtain ⟨ad245, e245, hx245_0⟩ := Kd.at_bool (Kd.R_reads' HO_6.out).2.2 x9_2 p245 q245
                              (try rw [← Nbq12.out] at hx245_0)
                              (try rw [← Nbq18.out] at hx245_0)
                              obtain rfl : ad244 = ad245 := (by injection e245)
                              replace p245 := eq_true p245
                              replace q245 := eq_true q245
                              go_wp2
                              (try simp only [← hl6_2])
                              go_roundg k2
                              case measure => have := HK1.out; have := HK2.out; omega
                              case rel => exact ⟨(x6_2), ((wrap64 (x7_1 + 1))), (wrap64 (x23_1 + 1)), (by first | rfl | (simp; done) | (simp [*]; done)), (by first | rfl | (simp; done) | (simp [*]; done)), H', ⟨by have := HK1.out; have := HK2.out; omega⟩, ⟨by (try simp only [hl6_2]); (with_reducible repeat (first | apply Kd.R_alloc | apply Kd.R_drewN | apply Kd.R_drew)); exact HO_6.out⟩, ⟨by repeat (first | (with_reducible first | exact HB.out | apply below_alloc | apply pw_below_drewN | apply below_drew1) | exact HB.out)⟩⟩
                            · replace c19 := Bool.eq_false_iff.mpr c19
                              subst c19
                              have H1 : (if x9_2 < (l0.length : Int) then (if 0 ≤ (rd l0 x9_2) then (if (rd l0 x9_2) < (x6_2.length : Int) then ((plait_diagram_down.f l0 (rd l0 x9_2)).bind fun t250 => (plait_Closed.l1 k2 l0 ((x6_2.set (x9_2 : Int).toNat true).set ((rd l0 x9_2) : Int).toNat true) (wrap64 (x7_1 + 1)) t250 (l0.length : Int) x23_1)) else (none)) else (none)) else (none)) = some (r1, r2) := by rw [if_neg (show ¬ (false = true) by decide)] at H; exact H
                              clear H
                              have H := H1
                              clear H1
                              by_cases c20 : x9_2 < (l0.length : Int)
                              · rw [if_pos c20] at H
                                have c20b0 : decide (x9_2 < (l0.length : Int)) = true := decide_eq_true c20
                                clear c20
                                obtain ⟨y247, hy247⟩ : ∃ y_ : List Bool, y_ = (x6_2.set (x9_2 : Int).toNat true) := ⟨_, rfl⟩
                                replace H : (if 0 ≤ (rd l0 x9_2) then (if (rd l0 x9_2) < (x6_2.length : Int) then ((plait_diagram_down.f l0 (rd l0 x9_2)).bind fun t250 => (plait_Closed.l1 k2 l0 (y247.set ((rd l0 x9_2) : Int).toNat true) (wrap64 (x7_1 + 1)) t250 (l0.length : Int) x23_1)) else (none)) else (none)) = some (r1, r2) := by first | (rw [hy247]; with_reducible exact H) | (have H2_ := (Option.bind_some _ _).symm.trans H; rw [hy247]; with_reducible exact H2_) | (have H2_ := (Option.bind_some _ _).symm.trans H; with_reducible exact H2_) | with_reducible exact H | (rw [hy247]; exact H) | exact H
                                have Ny247 := Aside0.mk hy247
                                clear hy247
                                by_cases c22 : 0 ≤ (rd l0 x9_2)
                                · rw [if_pos c22] at H
                                  have c22b0 : decide (0 ≤ (rd l0 x9_2)) = true := decide_eq_true c22
                                  clear c22
                                  by_cases c23 : (rd l0 x9_2) < (x6_2.length : Int)
                                  · rw [if_pos c23] at H
                                    have c23b0 : decide ((rd l0 x9_2) < (x6_2.length : Int)) = true := decide_eq_true c23
                                    clear c23
                                    obtain ⟨y248, hy248⟩ : ∃ y_ : List Bool, y_ = (y247.set ((rd l0 x9_2) : Int).toNat true) := ⟨_, rfl⟩
                                    replace H : ((plait_diagram_down.f l0 (rd l0 x9_2)).bind fun t250 => (plait_Closed.l1 k2 l0 y248 (wrap64 (x7_1 + 1)) t250 (l0.length : Int) x23_1)) = some (r1, r2) := by first | (rw [hy248]; with_reducible exact H) | (have H2_ := (Option.bind_some _ _).symm.trans H; rw [hy248]; with_reducible exact H2_) | (have H2_ := (Option.bind_some _ _).symm.trans H; with_reducible exact H2_) | with_reducible exact H | (rw [hy248]; exact H) | exact H
                                    have Ny248 := Aside0.mk hy248
                                    clear hy248
                                    replace H := Option.bind_eq_some_iff.mp H
                                    obtain ⟨t250, A250, H⟩ := H
                                    replace H : (plait_Closed.l1 k2 l0 y248 (wrap64 (x7_1 + 1)) t250 (l0.length : Int) x23_1) = some (r1, r2) := H
                                    have A25 := Aside0.mk A250
                                    clear A250
                                    have H' := Aside0.mk H
                                    clear H
                                    have p245 : 0 ≤ (x9_2 : Int) := of_decide_eq_true (by first | (with_reducible assumption) | assumption)
                                    have q245 : x9_2 < (x6_2.length : Int) := of_decide_eq_true (by first | (with_reducible assumption) | assumption)
                                    obtain ⟨ad245, e245, hx245_0⟩ := Kd.at_bool (Kd.R_reads' HO_6.out).2.2 x9_2 p245 q245
                                    (try rw [← Nbq12.out] at hx245_0)
                                    (try rw [← Nbq18.out] at hx245_0)
                                    obtain rfl : ad244 = ad245 := (by injection e245)
                                    replace p245 := eq_true p245
                                    replace q245 := eq_true q245
                                    have p246 : 0 ≤ (x9_2 : Int) := of_decide_eq_true (by first | (with_reducible assumption) | assumption)
                                    have q246 : x9_2 < (l0.length : Int) := of_decide_eq_true (by first | (with_reducible assumption) | assumption)
                                    obtain ⟨ad246, e246, hx246_0⟩ := Kd.at_int HR0.out x9_2 p246 q246
                                    cases e246
                                    replace hx246_0 := (HB.out.cell (World.block_lt_of_cell? w _ hx246_0)).trans hx246_0
                                    replace p246 := eq_true p246
                                    replace q246 := eq_true q246
                                    have p21 : 0 ≤ (x9_2 : Int) := of_decide_eq_true (by first | (with_reducible assumption) | assumption)
                                    have q21 : (x9_2 : Int) < ((x6_2.length : Int) : Int) := of_decide_eq_true (by first | (with_reducible assumption) | assumption)
                                    obtain ⟨go21, co21, eo21, gb21, gl21, cl21, HG21⟩ := Kd.R_form HO_6.out (by omega)
                                    (first | cases eo21 | (injection eo21 with ea_ en_ ec_; (first | subst ea_ | (injection ea_ with ea_; subst ea_)); subst ec_; clear en_))
                                    (try simp only [add_plain] at *)
                                    have GB21 := Aside0.mk gb21
                                    have GG21 := Aside0.mk HG21
                                    clear gb21 gl21 HG21
                                    (first | simp only [add_plain] at hx244_0 | skip)
                                    (first | simp only [add_plain] at hx245_0 | skip)
                                    obtain ⟨hx21_0, hf21_0⟩ := Kd.R_celln false HO_6.out (x9_2 : Int) p21 q21
                                    replace p21 := eq_true p21
                                    replace q21 := eq_true q21
                                    have HP26 := Kd.R_putg HO_6.out (x9_2 : Int) true
                                    go_wp2_with (first | ((with_reducible refine gate_store (t := 4) (p := 51) rfl ?_); refine store_event (t := 4) (p := 51) (v := ?vo_w27) (w1 := (wr.setCell ⟨go21, (x9_2 : Int).toNat, none⟩ (.bool true))) ?hg ?ho ?hn ?hr ?_; (case ho => rfl); (case hg => rfl); (case hn => rfl); (case hr => first | (go_simp; done) | (go_simp; rfl)); intro w27 hw; have hg : wr.grownBy w27 (some go21) := (by rw [hw]; exact HP26.2); have hp_ : Kd.R Kd.bool 4 w27 w.heap.size (fun _ => True) (.slice (some ⟨go21, 0, none⟩) x6_2.length co15) y247 := (by rw [hw, Ny247.out]; exact HP26.1); clear HP26; have n0_ := Aside0.mk (hp_); have n1_ := Aside0.mk ((by rw [hw]; exact below_set (HB.out) GB21.out : Below w.heap.size w w27)); clear HO_6; clear HB; have HO_6 := n0_; have HB := n1_; clear n0_ n1_; clear hg hw hp_; have p24 : 0 ≤ ((rd l0 x9_2) : Int) := of_decide_eq_true (by first | (with_reducible assumption) | assumption); have q24 : ((rd l0 x9_2) : Int) < ((x6_2.length : Int) : Int) := of_decide_eq_true (by first | (with_reducible assumption) | assumption); obtain ⟨hx24_0, hf24_0⟩ := Kd.R_celln false HO_6.out ((rd l0 x9_2) : Int) p24 q24; replace p24 := eq_true p24; replace q24 := eq_true q24; obtain ⟨hy28_, hz28_⟩ := Kd.R_celln false HO_6.out ((rd l0 x9_2) : Int) (of_decide_eq_true (by first | (with_reducible assumption) | assumption)) (of_decide_eq_true (by first | (with_reducible assumption) | assumption)); have HP28 := Kd.R_putg HO_6.out ((rd l0 x9_2) : Int) true) | ((with_reducible refine gate_store (t := 4) (p := 52) rfl ?_); refine store_event (t := 4) (p := 52) (v := ?vo_w29) (w1 := (w27.setCell ⟨go21, ((rd l0 x9_2) : Int).toNat, none⟩ (.bool true))) ?hg ?ho ?hn ?hr ?_; (case ho => rfl); (case hg => rfl); (case hn => rfl); (case hr => first | (go_simp; done) | (go_simp; rfl)); intro w29 hw; have hg : w27.grownBy w29 (some go21) := (by rw [hw]; exact HP28.2); have hp_ : Kd.R Kd.bool 4 w29 w.heap.size (fun _ => True) (.slice (some ⟨go21, 0, none⟩) x6_2.length co15) y248 := (by rw [hw, Ny248.out]; exact HP28.1); clear HP28; have n0_ := Aside0.mk (hp_); have n1_ := Aside0.mk ((by rw [hw]; exact below_set (HB.out) GB21.out : Below w.heap.size w w29)); clear HO_6; clear HB; have HO_6 := n0_; have HB := n1_; clear n0_ n1_; clear hg hw hp_; have p249 : 0 ≤ (x9_2 : Int) := of_decide_eq_true (by first | (with_reducible assumption) | assumption); have q249 : x9_2 < (l0.length : Int) := of_decide_eq_true (by first | (with_reducible assumption) | assumption); obtain ⟨ad249, e249, hx249_0⟩ := Kd.at_int HR0.out x9_2 p249 q249; obtain rfl : ad246 = ad249 := (by injection e249); replace hx249_0 := (HB.out.cell (World.block_lt_of_cell? w _ hx249_0)).trans hx249_0; replace p249 := eq_true p249; replace q249 := eq_true q249) | ((with_reducible refine gate_callee (f := 67) rfl ?_); refine goesL_ (some 43) rfl rfl Try.func67 (by kernel_rfl) rfl #[.slice (some ad246) l0.length c0, .int .i64 (rd l0 x9_2)] rfl (by (try simp only [List.map_toArray, List.map_cons, List.map_nil]); first | done | rfl | (simp only [List.length_drop, List.length_take]; rfl)) ?_; (with_reducible refine (plait_diagram_down.calls _ _ l0 (rd l0 x9_2) t250 _ ?side1 ?side2 A25.out).mono ?_); (case side1 => repeat (first | exact (Kd.C_below HR0.out HB.out) | (with_reducible refine Kd.C_alloc ?_ _) | (with_reducible refine Kd.C_drewN ?_ _) | (with_reducible refine Kd.C_drew ?_))); (case side2 => exact HC0.out); rintro e w' ⟨rfl, ⟨nd, rfl⟩⟩; refine ⟨_, rfl, ?_⟩))
                                    (try simp only [← hl6_2])
                                    go_roundg k2
                                    case measure => have := HK1.out; have := HK2.out; omega
                                    case rel => exact ⟨(y248), (t250), (by first | rfl | (simp; done) | (simp [*]; done)), H', ⟨by have := HK1.out; have := HK2.out; omega⟩, ⟨by (try simp only [hl6_2]); (with_reducible repeat (first | apply Kd.R_alloc | apply Kd.R_drewN | apply Kd.R_drew)); exact HO_6.out⟩, ⟨by repeat (first | (with_reducible first | exact HB.out | apply below_alloc | apply pw_below_drewN | apply below_drew1) | exact HB.out)⟩⟩
                                  · rw [if_neg c23] at H
                                    exact absurd H (by simp)
                                · rw [if_neg c22] at H
                                  exact absurd H (by simp)
                              · rw [if_neg c20] at H
                                exact absurd H (by simp)
                          · rw [if_neg c17] at H
                            exact absurd H (by simp)
                        · rw [if_neg c16] at H
                          exact absurd H (by simp)
                · rw [if_neg c11] at H
                  exact absurd H (by simp)
              · rw [if_neg c10] at H
                exact absurd H (by simp)
            · rw [if_neg c9] at H
              have c9b0 : decide (x23_1 < (l0.length : Int)) = false := decide_eq_false c9
              clear c9
              simp only [Option.some.injEq, Prod.mk.injEq] at H
              obtain ⟨rfl, rfl⟩ := H
              go_wp2
              go_ret2
              exact ⟨by first | rfl | (simp [errW_none, errW_some] <;> rfl) | (simp [*, errW_none, errW_some] <;> rfl), by repeat (first | (with_reducible first | exact HB.out | apply below_alloc | apply pw_below_drewN | apply below_drew1) | exact HB.out)⟩
      · rw [if_neg c5] at H
        exact absurd H (by simp)
    · rw [if_neg c4] at H
      exact absurd H (by simp)
  · rw [if_neg c3] at H
    have c3b0 : (t240 == 0) = false := beq_eq_false_iff_ne.mpr c3
    have c3b1 : (t240 != 0) = true := bne_iff_ne.mpr c3
    simp only [Option.some.injEq, Prod.mk.injEq] at H
    obtain ⟨rfl, rfl⟩ := H
    go_enter Try.func29, Try.ntmps29
    go_wp2_with (first | ((with_reducible refine gate_callee (f := 54) rfl ?_); refine goesL_ (some 12) rfl rfl Try.func54 (by kernel_rfl) rfl #[.slice A0 l0.length c0] rfl (by (try simp only [List.map_toArray, List.map_cons, List.map_nil]); first | done | rfl | (simp only [List.length_drop, List.length_take]; rfl)) ?_; (with_reducible refine (plait_of.calls k _ _ l0 t240 _ ?side1 ?side2 A2.out).mono ?_); (case side1 => repeat (first | exact HR0.out | (with_reducible refine Kd.C_alloc ?_ _) | (with_reducible refine Kd.C_drewN ?_ _) | (with_reducible refine Kd.C_drew ?_))); (case side2 => exact HC0.out); rintro e w30 ⟨rfl, hb⟩; refine ⟨_, rfl, ?_⟩; have n0_ := Aside0.mk (below_step (by repeat (first | (with_reducible first | exact HB.out | apply below_alloc | apply pw_below_drewN | apply below_drew1) | exact HB.out)) hb); clear HB; have HB := n0_; clear n0_; (try clear hb); (try clear hb2); (try clear hk); (try clear hi)))
    go_ret2
    exact ⟨by first | rfl | (simp [errW_none, errW_some] <;> rfl) | (simp [*, errW_none, errW_some] <;> rfl), by repeat (first | (with_reducible first | exact HB.out | apply below_alloc | apply pw_below_drewN | apply below_drew1) | exact HB.out)⟩

end Go.Proofs.Ytjfkompfkgjdaaa.PC
