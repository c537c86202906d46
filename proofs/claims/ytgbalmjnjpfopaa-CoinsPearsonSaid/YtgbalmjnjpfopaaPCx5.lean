-- Printed by a program of this session (mkprint.sh, over the kit's print.py), with own proofs for the functions that the print does not take.
import Derived.Test.YtgbalmjnjpfopaaPCx0
import Derived.Test.YtgbalmjnjpfopaaPCx1
import Derived.Test.YtgbalmjnjpfopaaPCx4
namespace Go.Proofs.Ytgbalmjnjpfopaa.PC
open Go.RowKit Go.Proofs.YtgbalmjnjpfopaaW.PrintWords Go.Proofs.YtgbalmjnjpfopaaW.PrintLast Go.Proofs.YtgbalmjnjpfopaaW.PrintMore
attribute [local go_sem] max2_int min2_int max_two min_two max_three min_three max_four min_four   -- for this text's walks alone
set_option linter.unusedVariables false
set_option linter.unusedSimpArgs false

/-! ### coins_Both: function 28 -/
mutual
def coins_Both.l0 : Nat → List Int → Int → Int → List Int → List Int → Option (Int × Int)
  | 0, _, _, _, _, _ => none
  | k + 1, x0, x1, x7, x8, x9 => if 0 < (x9.length : Int) then (if 1 ≤ (x9.length : Int) then (if (rd x9 0) = (wrap64 (x1 + x7)) then (if 0 ≤ (rd x9 0) then (if (rd x9 0) < (x8.length : Int) then (some (rd x8 (rd x9 0), 0)) else (none)) else (none)) else (coins_Both.l1 k x0 x1 x7 x8 (x9.drop (1 : Int).toNat) (rd x9 0) x0 (x0.length : Int) 0)) else (none)) else (none)
def coins_Both.l1 : Nat → List Int → Int → Int → List Int → List Int → Int → List Int → Int → Int → Option (Int × Int)
  | 0, _, _, _, _, _, _, _, _, _ => none
  | k + 1, x0, x1, x7, x8, x9, x10, x53, x54, x55 => if x55 < x54 then (if 0 ≤ x55 then (if x55 < (x53.length : Int) then ((some (([wrap64 (x10 - (rd x53 x55)), wrap64 (x10 + (rd x53 x55))] : List Int) : List Int)).bind fun y189 => (coins_Both.l2 k x0 x1 x7 x8 x9 x10 x53 x54 x55 y189 (y189.length : Int) 0)) else (none)) else (none)) else (coins_Both.l0 k x0 x1 x7 x8 x9)
def coins_Both.l2 : Nat → List Int → Int → Int → List Int → List Int → Int → List Int → Int → Int → List Int → Int → Int → Option (Int × Int)
  | 0, _, _, _, _, _, _, _, _, _, _, _, _ => none
  | k + 1, x0, x1, x7, x8, x9, x10, x53, x54, x55, x65, x66, x67 => if x67 < x66 then (if 0 ≤ x67 then (if x67 < (x65.length : Int) then (if (rd x65 x67) ≥ 0 then (if (rd x65 x67) < (x8.length : Int) then (if 0 ≤ (rd x65 x67) then (if (rd x8 (rd x65 x67)) < 0 then (if 0 ≤ x10 then (if x10 < (x8.length : Int) then (if x9.length < 17592186044416 then (coins_Both.l2 k x0 x1 x7 (x8.set ((rd x65 x67) : Int).toNat (wrap64 ((rd x8 x10) + 1))) (x9 ++ [rd x65 x67]) x10 x53 x54 x55 x65 x66 (wrap64 (x67 + 1))) else (none)) else (none)) else (none)) else (coins_Both.l2 k x0 x1 x7 x8 x9 x10 x53 x54 x55 x65 x66 (wrap64 (x67 + 1)))) else (none)) else (coins_Both.l2 k x0 x1 x7 x8 x9 x10 x53 x54 x55 x65 x66 (wrap64 (x67 + 1)))) else (coins_Both.l2 k x0 x1 x7 x8 x9 x10 x53 x54 x55 x65 x66 (wrap64 (x67 + 1)))) else (none)) else (none)) else (coins_Both.l1 k x0 x1 x7 x8 x9 x10 x53 x54 (wrap64 (x55 + 1)))
end
def coins_Both.f (k : Nat) (l0 : List Int) (a1 : Int) : Option (Int × Int) := (coins_looked.f k l0 a1 100000).bind fun t171 => (if t171 = 0 then (if 0 ≤ (wrap64 ((l0.length : Int) - 1)) then (if (wrap64 ((l0.length : Int) - 1)) < (l0.length : Int) then ((slices_Repeat_int_int.f k (([(-1)] : List Int)) (wrap64 ((wrap64 (a1 + (wrap64 (2 * (rd l0 (wrap64 ((l0.length : Int) - 1))))))) + 1))).bind fun t176 => (if 0 ≤ (rd l0 (wrap64 ((l0.length : Int) - 1))) then (if (rd l0 (wrap64 ((l0.length : Int) - 1))) < (t176.length : Int) then (coins_Both.l0 k l0 a1 (rd l0 (wrap64 ((l0.length : Int) - 1))) (t176.set ((rd l0 (wrap64 ((l0.length : Int) - 1))) : Int).toNat 0) (([rd l0 (wrap64 ((l0.length : Int) - 1))] : List Int))) else (none)) else (none))) else (none)) else (none)) else (some (0, t171)))
theorem coins_Both.mono_l : ∀ k, (∀ y0 y1 y2 y3 y4, LeO (coins_Both.l0 k y0 y1 y2 y3 y4) (coins_Both.l0 (k + 1) y0 y1 y2 y3 y4)) ∧ (∀ y0 y1 y2 y3 y4 y5 y6 y7 y8, LeO (coins_Both.l1 k y0 y1 y2 y3 y4 y5 y6 y7 y8) (coins_Both.l1 (k + 1) y0 y1 y2 y3 y4 y5 y6 y7 y8)) ∧ (∀ y0 y1 y2 y3 y4 y5 y6 y7 y8 y9 y10 y11, LeO (coins_Both.l2 k y0 y1 y2 y3 y4 y5 y6 y7 y8 y9 y10 y11) (coins_Both.l2 (k + 1) y0 y1 y2 y3 y4 y5 y6 y7 y8 y9 y10 y11))
  | 0 => ⟨fun _ _ _ _ _ r h => by simp [coins_Both.l0] at h, fun _ _ _ _ _ _ _ _ _ r h => by simp [coins_Both.l1] at h, fun _ _ _ _ _ _ _ _ _ _ _ _ r h => by simp [coins_Both.l2] at h⟩
  | k + 1 => by
    obtain ⟨ih0, ih1, ih2⟩ := coins_Both.mono_l k
    refine ⟨?_, ?_, ?_⟩
    · intro y0 y1 y2 y3 y4
      unfold coins_Both.l0
      repeat' first
      | (with_reducible exact ih0 _ _ _ _ _)
      | (with_reducible exact ih1 _ _ _ _ _ _ _ _ _)
      | (with_reducible exact ih2 _ _ _ _ _ _ _ _ _ _ _ _)
      | (with_reducible exact coins_looked.mono _ _ _ _)
      | (with_reducible exact slices_Repeat_int_int.mono _ _ _)
      | (with_reducible exact LeO.refl _)
      | (with_reducible exact LeO.none _)
      | (with_reducible refine LeO.ite ?_ ?_)
      | (with_reducible refine LeO.bind ?_ (fun _ => ?_))
      | exact ih0 _ _ _ _ _
      | exact ih1 _ _ _ _ _ _ _ _ _
      | exact ih2 _ _ _ _ _ _ _ _ _ _ _ _
      | exact coins_looked.mono _ _ _ _
      | exact slices_Repeat_int_int.mono _ _ _
      | exact LeO.none _
      | refine LeO.ite ?_ ?_
      | refine LeO.bind ?_ (fun _ => ?_)
    · intro y0 y1 y2 y3 y4 y5 y6 y7 y8
      unfold coins_Both.l1
      repeat' first
      | (with_reducible exact ih0 _ _ _ _ _)
      | (with_reducible exact ih1 _ _ _ _ _ _ _ _ _)
      | (with_reducible exact ih2 _ _ _ _ _ _ _ _ _ _ _ _)
      | (with_reducible exact coins_looked.mono _ _ _ _)
      | (with_reducible exact slices_Repeat_int_int.mono _ _ _)
      | (with_reducible exact LeO.refl _)
      | (with_reducible exact LeO.none _)
      | (with_reducible refine LeO.ite ?_ ?_)
      | (with_reducible refine LeO.bind ?_ (fun _ => ?_))
      | exact ih0 _ _ _ _ _
      | exact ih1 _ _ _ _ _ _ _ _ _
      | exact ih2 _ _ _ _ _ _ _ _ _ _ _ _
      | exact coins_looked.mono _ _ _ _
      | exact slices_Repeat_int_int.mono _ _ _
      | exact LeO.none _
      | refine LeO.ite ?_ ?_
      | refine LeO.bind ?_ (fun _ => ?_)
    · intro y0 y1 y2 y3 y4 y5 y6 y7 y8 y9 y10 y11
      unfold coins_Both.l2
      repeat' first
      | (with_reducible exact ih0 _ _ _ _ _)
      | (with_reducible exact ih1 _ _ _ _ _ _ _ _ _)
      | (with_reducible exact ih2 _ _ _ _ _ _ _ _ _ _ _ _)
      | (with_reducible exact coins_looked.mono _ _ _ _)
      | (with_reducible exact slices_Repeat_int_int.mono _ _ _)
      | (with_reducible exact LeO.refl _)
      | (with_reducible exact LeO.none _)
      | (with_reducible refine LeO.ite ?_ ?_)
      | (with_reducible refine LeO.bind ?_ (fun _ => ?_))
      | exact ih0 _ _ _ _ _
      | exact ih1 _ _ _ _ _ _ _ _ _
      | exact ih2 _ _ _ _ _ _ _ _ _ _ _ _
      | exact coins_looked.mono _ _ _ _
      | exact slices_Repeat_int_int.mono _ _ _
      | exact LeO.none _
      | refine LeO.ite ?_ ?_
      | refine LeO.bind ?_ (fun _ => ?_)
theorem coins_Both.mono : ∀ a0 a1 k, LeO (coins_Both.f k a0 a1) (coins_Both.f (k + 1) a0 a1) := by
  intro a0 a1 k
  obtain ⟨ih0, ih1, ih2⟩ := coins_Both.mono_l k
  unfold coins_Both.f
  repeat' first
      | (with_reducible exact ih0 _ _ _ _ _)
      | (with_reducible exact ih1 _ _ _ _ _ _ _ _ _)
      | (with_reducible exact ih2 _ _ _ _ _ _ _ _ _ _ _ _)
      | (with_reducible exact coins_looked.mono _ _ _ _)
      | (with_reducible exact slices_Repeat_int_int.mono _ _ _)
      | (with_reducible exact LeO.refl _)
      | (with_reducible exact LeO.none _)
      | (with_reducible refine LeO.ite ?_ ?_)
      | (with_reducible refine LeO.bind ?_ (fun _ => ?_))
      | exact ih0 _ _ _ _ _
      | exact ih1 _ _ _ _ _ _ _ _ _
      | exact ih2 _ _ _ _ _ _ _ _ _ _ _ _
      | exact coins_looked.mono _ _ _ _
      | exact slices_Repeat_int_int.mono _ _ _
      | exact LeO.none _
      | refine LeO.ite ?_ ?_
      | refine LeO.bind ?_ (fun _ => ?_)
set_option maxHeartbeats 8000000 in
set_option maxRecDepth 100000 in
theorem coins_Both.calls (k : Nat) (A0 : Option Addr) (c0 : Nat) (l0 : List Int) (a1 : Int) (r1 : Int) (r2 : Int) (w : World) (hr0 : Kd.C (Kd.int .i64) w A0 l0.length l0) (hc0 : l0.length ≤ c0) (h : coins_Both.f k l0 a1 = some (r1, r2)) :
    Calls Try.prog 28 #[.slice A0 l0.length c0, .int .i64 a1] w fun e w' => e = .returned (.tuple #[.int .i64 r1, .int .i64 r2]) ∧ Below w.heap.size w w' := by
  have HR0 := Aside0.mk hr0
  have HC0 := Aside0.mk hc0
  clear hr0 hc0
  have HB := Aside0.mk (Below.refl w.heap.size w)
  have H : ((coins_looked.f k l0 a1 100000).bind fun t171 => (if t171 = 0 then (if 0 ≤ (wrap64 ((l0.length : Int) - 1)) then (if (wrap64 ((l0.length : Int) - 1)) < (l0.length : Int) then ((slices_Repeat_int_int.f k (([(-1)] : List Int)) (wrap64 ((wrap64 (a1 + (wrap64 (2 * (rd l0 (wrap64 ((l0.length : Int) - 1))))))) + 1))).bind fun t176 => (if 0 ≤ (rd l0 (wrap64 ((l0.length : Int) - 1))) then (if (rd l0 (wrap64 ((l0.length : Int) - 1))) < (t176.length : Int) then (coins_Both.l0 k l0 a1 (rd l0 (wrap64 ((l0.length : Int) - 1))) (t176.set ((rd l0 (wrap64 ((l0.length : Int) - 1))) : Int).toNat 0) (([rd l0 (wrap64 ((l0.length : Int) - 1))] : List Int))) else (none)) else (none))) else (none)) else (none)) else (some (0, t171)))) = some (r1, r2) := h
  clear h
  replace H := Option.bind_eq_some_iff.mp H
  obtain ⟨t171, A30, H⟩ := H
  replace H : (if t171 = 0 then (if 0 ≤ (wrap64 ((l0.length : Int) - 1)) then (if (wrap64 ((l0.length : Int) - 1)) < (l0.length : Int) then ((slices_Repeat_int_int.f k (([(-1)] : List Int)) (wrap64 ((wrap64 (a1 + (wrap64 (2 * (rd l0 (wrap64 ((l0.length : Int) - 1))))))) + 1))).bind fun t176 => (if 0 ≤ (rd l0 (wrap64 ((l0.length : Int) - 1))) then (if (rd l0 (wrap64 ((l0.length : Int) - 1))) < (t176.length : Int) then (coins_Both.l0 k l0 a1 (rd l0 (wrap64 ((l0.length : Int) - 1))) (t176.set ((rd l0 (wrap64 ((l0.length : Int) - 1))) : Int).toNat 0) (([rd l0 (wrap64 ((l0.length : Int) - 1))] : List Int))) else (none)) else (none))) else (none)) else (none)) else (some (0, t171))) = some (r1, r2) := H
  have A3 := Aside0.mk A30
  clear A30
  by_cases c4 : t171 = 0
  · rw [if_pos c4] at H
    have c4b0 : (t171 == 0) = true := beq_iff_eq.mpr c4
    have c4b1 : (t171 != 0) = false := bne_eq_false_iff_eq.mpr c4
    clear c4
    obtain ⟨ji5, hji5⟩ : ∃ j_ : Int, (wrap64 ((l0.length : Int) - 1)) = j_ := ⟨_, rfl⟩
    replace H : (if 0 ≤ (ji5) then (if (ji5) < (l0.length : Int) then ((slices_Repeat_int_int.f k (([(-1)] : List Int)) (wrap64 ((wrap64 (a1 + (wrap64 (2 * (rd l0 (ji5)))))) + 1))).bind fun t176 => (if 0 ≤ (rd l0 (ji5)) then (if (rd l0 (ji5)) < (t176.length : Int) then (coins_Both.l0 k l0 a1 (rd l0 (ji5)) (t176.set ((rd l0 (ji5)) : Int).toNat 0) (([rd l0 (ji5)] : List Int))) else (none)) else (none))) else (none)) else (none)) = some (r1, r2) := by first | (rw [hji5] at H; exact H) | (simp only [hji5] at H ⊢; exact H)
    (try rw [hji5] at A3)
    have hji5w : (IntKind.i64.wrap ((l0.length : Int) - 1)) = ji5 := (i64_w _).trans hji5
    by_cases c6 : 0 ≤ (ji5)
    · rw [if_pos c6] at H
      have c6b0 : decide (0 ≤ (ji5)) = true := decide_eq_true c6
      clear c6
      by_cases c7 : (ji5) < (l0.length : Int)
      · rw [if_pos c7] at H
        have c7b0 : decide ((ji5) < (l0.length : Int)) = true := decide_eq_true c7
        clear c7
        obtain ⟨y173, hy173⟩ : ∃ y_ : List Int, y_ = (([(-1)] : List Int)) := ⟨_, rfl⟩
        replace H : ((slices_Repeat_int_int.f k y173 (wrap64 ((wrap64 (a1 + (wrap64 (2 * (rd l0 (ji5)))))) + 1))).bind fun t176 => (if 0 ≤ (rd l0 (ji5)) then (if (rd l0 (ji5)) < (t176.length : Int) then (coins_Both.l0 k l0 a1 (rd l0 (ji5)) (t176.set ((rd l0 (ji5)) : Int).toNat 0) (([rd l0 (ji5)] : List Int))) else (none)) else (none))) = some (r1, r2) := by first | (rw [hy173]; with_reducible exact H) | (have H2_ := (Option.bind_some _ _).symm.trans H; rw [hy173]; with_reducible exact H2_) | (have H2_ := (Option.bind_some _ _).symm.trans H; with_reducible exact H2_) | with_reducible exact H | (rw [hy173]; exact H) | exact H
        have Ny173 := Aside0.mk hy173
        clear hy173
        replace H := Option.bind_eq_some_iff.mp H
        obtain ⟨t176, A80, H⟩ := H
        replace H : (if 0 ≤ (rd l0 (ji5)) then (if (rd l0 (ji5)) < (t176.length : Int) then (coins_Both.l0 k l0 a1 (rd l0 (ji5)) (t176.set ((rd l0 (ji5)) : Int).toNat 0) (([rd l0 (ji5)] : List Int))) else (none)) else (none)) = some (r1, r2) := H
        have A8 := Aside0.mk A80
        clear A80
        obtain ⟨y179, hy179⟩ : ∃ y_ : List Int, y_ = (([rd l0 (ji5)] : List Int)) := ⟨_, rfl⟩
        replace H : (if 0 ≤ (rd l0 (ji5)) then (if (rd l0 (ji5)) < (t176.length : Int) then (coins_Both.l0 k l0 a1 (rd l0 (ji5)) (t176.set ((rd l0 (ji5)) : Int).toNat 0) y179) else (none)) else (none)) = some (r1, r2) := by first | (rw [hy179]; with_reducible exact H) | (have H2_ := (Option.bind_some _ _).symm.trans H; rw [hy179]; with_reducible exact H2_) | (have H2_ := (Option.bind_some _ _).symm.trans H; with_reducible exact H2_) | with_reducible exact H | (rw [hy179]; exact H) | exact H
        have Ny179 := Aside0.mk hy179
        clear hy179
        by_cases c9 : 0 ≤ (rd l0 (ji5))
        · rw [if_pos c9] at H
          have c9b0 : decide (0 ≤ (rd l0 (ji5))) = true := decide_eq_true c9
          clear c9
          by_cases c10 : (rd l0 (ji5)) < (t176.length : Int)
          · rw [if_pos c10] at H
            have c10b0 : decide ((rd l0 (ji5)) < (t176.length : Int)) = true := decide_eq_true c10
            clear c10
            obtain ⟨y182, hy182⟩ : ∃ y_ : List Int, y_ = (t176.set ((rd l0 (ji5)) : Int).toNat 0) := ⟨_, rfl⟩
            replace H : (coins_Both.l0 k l0 a1 (rd l0 (ji5)) y182 y179) = some (r1, r2) := by first | (rw [hy182]; with_reducible exact H) | (have H2_ := (Option.bind_some _ _).symm.trans H; rw [hy182]; with_reducible exact H2_) | (have H2_ := (Option.bind_some _ _).symm.trans H; with_reducible exact H2_) | with_reducible exact H | (rw [hy182]; exact H) | exact H
            have Ny182 := Aside0.mk hy182
            clear hy182
            have H' := Aside0.mk H
            clear H
            go_enter Try.func28, Try.ntmps28
            go_wp2_with (first | ((with_reducible refine gate_callee (f := 30) rfl ?_); refine goesL_ (some 17) rfl rfl Try.func30 (by kernel_rfl) rfl #[.slice A0 l0.length c0, .int .i64 a1, .int .i64 100000] rfl (by (try simp only [List.map_toArray, List.map_cons, List.map_nil]); first | done | rfl | (simp only [List.length_drop, List.length_take]; rfl)) ?_; (with_reducible refine (coins_looked.calls k _ _ l0 a1 100000 t171 _ ?side1 ?side2 A3.out).mono ?_); (case side1 => repeat (first | exact HR0.out | (with_reducible refine Kd.C_alloc ?_ _) | (with_reducible refine Kd.C_drewN ?_ _) | (with_reducible refine Kd.C_drew ?_))); (case side2 => exact HC0.out); rintro e w' ⟨rfl, ⟨nd, rfl⟩⟩; refine ⟨_, rfl, ?_⟩; have p172 : 0 ≤ ((ji5) : Int) := of_decide_eq_true (by first | (with_reducible assumption) | assumption); have q172 : (ji5) < (l0.length : Int) := of_decide_eq_true (by first | (with_reducible assumption) | assumption); obtain ⟨ad172, e172, hx172_0⟩ := Kd.at_int HR0.out (ji5) p172 q172; cases e172; replace p172 := eq_true p172; replace q172 := eq_true q172) | ((with_reducible refine gate_dst (N := 27) rfl ?_); (try (refine gate_guard (by rfl) ?_; dsimp only)); refine Kd.R_lit (Kd.int .i64) _ 3 ?hg (N := 27) ?hd (xs := ([(-1)] : List Int)) (inner := [.int .i64 (-1)]) (ok := fun _ => True) (okp := fun _ => True) ?hr ?hp (fun _ hk => hk) trivial (Below.refl _ _) (Nat.le_refl _) (by simp) ?_; (case hd => rfl); (case hg => rfl); (case hr => first | (go_simp; done) | (go_simp; rfl)); (case hp => exact (Reps.one (show Kd.M (Kd.int .i64) _ _ _ (-1) [.int .i64 (-1)] from rfl) (Reps.none _ _))); intro v174 w12 ho13 hb hg_ hnew_; clear hg_ hnew_; (first | rw [← Ny173.out] at ho13 | (simp only [Int.reduceToNat] at ho13; rw [← Ny173.out] at ho13)); have n0_ := Aside0.mk (Kd.R_lower ho13 (below_size (by repeat (first | (with_reducible first | exact HB.out | apply below_alloc | apply pw_below_drewN | apply below_drew1) | exact HB.out)))); have n1_ := Aside0.mk (below_step (by repeat (first | (with_reducible first | exact HB.out | apply below_alloc | apply pw_below_drewN | apply below_drew1) | exact HB.out)) hb); clear HB; have HO175 := n0_; have HB := n1_; clear n0_ n1_; clear hb ho13; obtain ⟨Ao14, co14, eo14⟩ := Kd.R_slice HO175.out; subst eo14) | ((with_reducible refine gate_callee (f := 42) rfl ?_); refine goesL_ (some 33) rfl rfl Try.func42 (by kernel_rfl) rfl #[.slice Ao14 y173.length co14, .int .i64 (wrap64 ((wrap64 (a1 + (wrap64 (2 * (rd l0 (ji5)))))) + 1))] rfl (by (try simp only [List.map_toArray, List.map_cons, List.map_nil]); first | done | (simp only [hji5]; rfl) | rfl | (simp only [List.length_drop, List.length_take]; rfl)) ?_; (with_reducible refine (slices_Repeat_int_int.calls k _ _ y173 (wrap64 ((wrap64 (a1 + (wrap64 (2 * (rd l0 (ji5)))))) + 1)) t176 _ ?side1 ?side2 A8.out).mono ?_); (case side1 => repeat (first | exact (Kd.R_reads' HO175.out).2.2 | (with_reducible refine Kd.C_alloc ?_ _) | (with_reducible refine Kd.C_drewN ?_ _) | (with_reducible refine Kd.C_drew ?_))); (case side2 => exact (Kd.R_reads' HO175.out).2.1); rintro e w15 ⟨v177, rfl, ho0, hb⟩; refine ⟨_, rfl, ?_⟩; have n0_ := Aside0.mk (Kd.R_elder' (by (with_reducible repeat (first | apply Kd.R_alloc | apply Kd.R_drewN | apply Kd.R_drew)); exact HO175.out) (Kd.R_base ho0) hb); have n1_ := Aside0.mk (Kd.R_lower (Kd.R_new' ho0 (Kd.R_lt (by (with_reducible repeat (first | apply Kd.R_alloc | apply Kd.R_drewN | apply Kd.R_drew)); exact HO175.out))) (below_size (by repeat (first | (with_reducible first | exact HB.out | apply below_alloc | apply pw_below_drewN | apply below_drew1) | exact HB.out)))); have n2_ := Aside0.mk (below_step (by repeat (first | (with_reducible first | exact HB.out | apply below_alloc | apply pw_below_drewN | apply below_drew1) | exact HB.out)) hb); clear HO175; clear HB; have HO175 := n0_; have HO178 := n1_; have HB := n2_; clear n0_ n1_ n2_; (try clear hb); (try clear hb2); (try clear hk); (try clear hi); (try clear ho0)) | ((with_reducible refine gate_dst (N := 35) rfl ?_); (try (refine gate_guard (by rfl) ?_; dsimp only)); refine Kd.R_lit (Kd.int .i64) _ 3 ?hg (N := 35) ?hd (xs := ([rd l0 (ji5)] : List Int)) (inner := [.int .i64 (rd l0 (ji5))]) (ok := fun _ => True) (okp := fun _ => True) ?hr ?hp (fun _ hk => hk) trivial (Below.refl _ _) (Nat.le_refl _) (by simp) ?_; (case hd => rfl); (case hg => rfl); (case hr => first | (go_simp; done) | (go_simp; rfl)); (case hp => exact (Reps.one (show Kd.M (Kd.int .i64) _ _ _ (rd l0 (ji5)) [.int .i64 (rd l0 (ji5))] from rfl) (Reps.none _ _))); intro v180 w16 ho17 hb hg_ hnew_; clear hg_ hnew_; (first | rw [← Ny179.out] at ho17 | (simp only [Int.reduceToNat] at ho17; rw [← Ny179.out] at ho17)); have n0_ := Aside0.mk (Kd.R_elder' (by (with_reducible repeat (first | apply Kd.R_alloc | apply Kd.R_drewN | apply Kd.R_drew)); exact HO175.out) (Kd.R_base ho17) hb); have n1_ := Aside0.mk (Kd.R_elder' (by (with_reducible repeat (first | apply Kd.R_alloc | apply Kd.R_drewN | apply Kd.R_drew)); exact HO178.out) (Kd.R_base ho17) hb); have n2_ := Aside0.mk (Kd.R_lower (Kd.R_new' (Kd.R_new' ho17 (Kd.R_lt (by (with_reducible repeat (first | apply Kd.R_alloc | apply Kd.R_drewN | apply Kd.R_drew)); exact HO175.out))) (Kd.R_lt (by (with_reducible repeat (first | apply Kd.R_alloc | apply Kd.R_drewN | apply Kd.R_drew)); exact HO178.out))) (below_size (by repeat (first | (with_reducible first | exact HB.out | apply below_alloc | apply pw_below_drewN | apply below_drew1) | exact HB.out)))); have n3_ := Aside0.mk (below_step (by repeat (first | (with_reducible first | exact HB.out | apply below_alloc | apply pw_below_drewN | apply below_drew1) | exact HB.out)) hb); clear HO175; clear HO178; clear HB; have HO175 := n0_; have HO178 := n1_; have HO181 := n2_; have HB := n3_; clear n0_ n1_ n2_ n3_; clear hb ho17; have p11 : 0 ≤ ((rd l0 (ji5)) : Int) := of_decide_eq_true (by first | (with_reducible assumption) | assumption); have q11 : ((rd l0 (ji5)) : Int) < ((t176.length : Int) : Int) := of_decide_eq_true (by first | (with_reducible assumption) | assumption); obtain ⟨go11, co11, eo11, gb11, gl11, cl11, HG11⟩ := Kd.R_form HO178.out (by omega); (first | cases eo11 | (injection eo11 with ea_ en_ ec_; (first | subst ea_ | (injection ea_ with ea_; subst ea_)); subst ec_; clear en_)); have GB11 := Aside0.mk gb11; have GG11 := Aside0.mk HG11; clear gb11 gl11 HG11; obtain ⟨hx11_0, hf11_0⟩ := Kd.R_celln 0 HO178.out ((rd l0 (ji5)) : Int) p11 q11; replace p11 := eq_true p11; replace q11 := eq_true q11; have n_ := Aside0.mk (Kd.R_mono (ok' := (fun k_ => some k_ ≠ (.slice Ao14 y173.length co14 : Value).ownBlock ∧ some k_ ≠ (v180 : Value).ownBlock)) HO178.out (fun k_ hk => ⟨hk.1.2, hk.2⟩)); clear HO178; have HO178 := n_; clear n_; obtain ⟨hy18_, hz18_⟩ := Kd.R_celln 0 HO178.out ((rd l0 (ji5)) : Int) (of_decide_eq_true (by first | (with_reducible assumption) | assumption)) (of_decide_eq_true (by first | (with_reducible assumption) | assumption)); have HP18 := Kd.R_putg HO178.out ((rd l0 (ji5)) : Int) 0) | ((with_reducible refine gate_store (t := 3) (p := 38) rfl ?_); refine store_event (t := 3) (p := 38) (v := ?vo_w19) (w1 := (w16.setCell ⟨go11, ((rd l0 (ji5)) : Int).toNat, none⟩ (.int .i64 0))) ?hg ?ho ?hn ?hr ?_; (case ho => rfl); (case hg => rfl); (case hn => rfl); (case hr => first | (go_simp; done) | (go_simp; rfl)); intro w19 hw; have hg : w16.grownBy w19 (some go11) := (by rw [hw]; exact HP18.2); have hp_ : Kd.R (Kd.int .i64) 3 w19 w.heap.size (fun k_ => some k_ ≠ (.slice Ao14 y173.length co14 : Value).ownBlock ∧ some k_ ≠ (v180 : Value).ownBlock) (.slice (some ⟨go11, 0, none⟩) t176.length co11) y182 := (by rw [hw, Ny182.out]; exact HP18.1); clear HP18; have n0_ := Aside0.mk (Kd.R_after (v := (.slice (some ⟨go11, 0, none⟩) t176.length co11)) (v1 := (.slice (some ⟨go11, 0, none⟩) t176.length co11)) (ok := (fun k_ => some k_ ≠ (v180 : Value).ownBlock)) (by (with_reducible repeat (first | apply Kd.R_alloc | apply Kd.R_drewN | apply Kd.R_drew)); exact Kd.R_mono HO175.out (fun _ hk => ⟨hk.2, hk.1.2⟩)) hg (.inl rfl)); have n1_ := Aside0.mk (hp_); have n2_ := Aside0.mk (Kd.R_after (v := (.slice (some ⟨go11, 0, none⟩) t176.length co11)) (v1 := (.slice (some ⟨go11, 0, none⟩) t176.length co11)) (ok := (fun k_ => some k_ ≠ (.slice Ao14 y173.length co14 : Value).ownBlock)) (by (with_reducible repeat (first | apply Kd.R_alloc | apply Kd.R_drewN | apply Kd.R_drew)); exact Kd.R_mono HO181.out (fun _ hk => ⟨hk.1.2, hk.2⟩)) hg (.inl rfl)); have n3_ := Aside0.mk ((by rw [hw]; exact below_set (HB.out) GB11.out : Below w.heap.size w w19)); clear HO175; clear HO178; clear HO181; clear HB; have HO175 := n0_; have HO178 := n1_; have HO181 := n2_; have HB := n3_; clear n0_ n1_ n2_ n3_; clear hg hw hp_))
            go_loopg [9] k (fun kq v9 w' => ∃ (x8_1 : List Int) (x9_1 : List Int), Aside0 (coins_Both.l0 kq l0 a1 (rd l0 (ji5)) x8_1 x9_1 = some (r1, r2)) ∧ Aside0 (kq ≤ k) ∧ Aside0 (Kd.R (Kd.int .i64) 3 w' w.heap.size (fun k_ => some k_ ≠ (v9 : Value).ownBlock) (.slice (some ⟨go11, 0, none⟩) t176.length co11) x8_1) ∧ Aside0 (Kd.Q (Kd.int .i64) 3 w' w.heap.size (fun k_ => some k_ ≠ ((.slice (some ⟨go11, 0, none⟩) t176.length co11) : Value).ownBlock) v9 x9_1) ∧ Aside0 (Below w.heap.size w w'))
            case atStart => exact ⟨(y182), (y179), H', ⟨Nat.le_refl _⟩, ⟨by (with_reducible repeat (first | apply Kd.R_alloc | apply Kd.R_drewN | apply Kd.R_drew)); exact Kd.R_mono HO178.out (fun _ hk => hk.2)⟩, ⟨Kd.Q_of_R (by (with_reducible repeat (first | apply Kd.R_alloc | apply Kd.R_drewN | apply Kd.R_drew)); exact Kd.R_mono HO181.out (fun _ hk => hk.2))⟩, ⟨by repeat (first | (with_reducible first | exact HB.out | apply below_alloc | apply pw_below_drewN | apply below_drew1) | exact HB.out)⟩⟩
            case round =>
              clear H'
              try clear c1
              try clear p1
              try clear q1
              try clear hx1
              try clear c2
              try clear p2
              try clear c3
              try clear c4
              try clear c4b0
              try clear c4b1
              try clear c6
              try clear c6b0
              try clear p6
              try clear c7
              try clear c7b0
              try clear c9
              try clear c9b0
              try clear c10
              try clear c10b0
              try clear p11
              try clear q11
              try clear hx11
              try clear hf11
              try clear p17
              try clear q17
              try clear hx17
              try clear hx11_0
              try clear hx172_0
              try clear p11
              try clear p172
              try clear q11
              try clear q172
              obtain ⟨x8_1, x9_1, HA, HK1, HO_8, HO_9, HB⟩ := hrel
              have hl8_1 := (Kd.R_reads' HO_8.out).1
              rw [hl8_1] at HO_8
              (try simp only [hl8_1])
              (try simp only [hl8_1] at HO_9)
              cases gk with
              | zero => exact absurd HA.out (by simp [coins_Both.l0])
              | succ k1 =>
                have H := HA.out
                clear HA
                simp only [coins_Both.l0] at H
                by_cases c20 : 0 < (x9_1.length : Int)
                · rw [if_pos c20] at H
                  have c20b0 : decide (0 < (x9_1.length : Int)) = true := decide_eq_true c20
                  have c20b1 : decide (0 < x9_1.length) = true := decide_eq_true (by omega)
                  clear c20
                  by_cases c21 : 1 ≤ (x9_1.length : Int)
                  · rw [if_pos c21] at H
                    have c21b0 := eq_true c21
                    have c21b1 : decide (1 ≤ (x9_1.length : Int)) = true := decide_eq_true c21
                    clear c21
                    obtain ⟨y184, hy184⟩ : ∃ y_ : List Int, y_ = (x9_1.drop (1 : Int).toNat) := ⟨_, rfl⟩
                    replace H : (if (rd x9_1 0) = (wrap64 (a1 + (rd l0 (ji5)))) then (if 0 ≤ (rd x9_1 0) then (if (rd x9_1 0) < (x8_1.length : Int) then (some (rd x8_1 (rd x9_1 0), 0)) else (none)) else (none)) else (coins_Both.l1 k1 l0 a1 (rd l0 (ji5)) x8_1 y184 (rd x9_1 0) l0 (l0.length : Int) 0)) = some (r1, r2) := by first | (rw [hy184]; with_reducible exact H) | (have H2_ := (Option.bind_some _ _).symm.trans H; rw [hy184]; with_reducible exact H2_) | (have H2_ := (Option.bind_some _ _).symm.trans H; with_reducible exact H2_) | with_reducible exact H | (rw [hy184]; exact H) | exact H
                    have Ny184 := Aside0.mk hy184
                    clear hy184
                    by_cases c22 : (rd x9_1 0) = (wrap64 (a1 + (rd l0 (ji5))))
                    · rw [if_pos c22] at H
                      have c22b0 : ((rd x9_1 0) == (wrap64 (a1 + (rd l0 (ji5))))) = true := beq_iff_eq.mpr c22
                      have c22b1 : ((rd x9_1 0) != (wrap64 (a1 + (rd l0 (ji5))))) = false := bne_eq_false_iff_eq.mpr c22
                      clear c22
                      by_cases c23 : 0 ≤ (rd x9_1 0)
                      · rw [if_pos c23] at H
                        have c23b0 : decide (0 ≤ (rd x9_1 0)) = true := decide_eq_true c23
                        clear c23
                        by_cases c24 : (rd x9_1 0) < (x8_1.length : Int)
                        · rw [if_pos c24] at H
                          have c24b0 : decide ((rd x9_1 0) < (x8_1.length : Int)) = true := decide_eq_true c24
                          clear c24
                          simp only [Option.some.injEq, Prod.mk.injEq] at H
                          obtain ⟨rfl, rfl⟩ := H
                          obtain ⟨Ao25, co25, eo25, _⟩ := Kd.Q_slice HO_9.out
                          subst eo25
                          have p183 : 0 ≤ (0 : Int) := (by omega)
                          have q183 : 0 < (x9_1.length : Int) := of_decide_eq_true (by first | (with_reducible assumption) | assumption)
                          obtain ⟨ad183, e183, hx183_0⟩ := Kd.at_int (Kd.Q_reads' HO_9.out).2.2 0 p183 q183
                          cases e183
                          have qi183 : (0 < x9_1.length) = True := eq_true (by omega)
                          (try rw [show ((0 : Int)).toNat = 0 from rfl] at hx183_0)
                          (try rw [Addr.add_zero'] at hx183_0)
                          replace p183 := eq_true p183
                          replace q183 := eq_true q183
                          have q26 : (1 : Int) ≤ ((x9_1.length : Int) : Int) := of_decide_eq_true (by first | (with_reducible assumption) | assumption)
                          obtain ⟨i026, hi026, _, hsz26, _⟩ := info_parts info3
                          have hcut26 := cut_from (P := Try.prog) 22 3 .i64 Try.underlying22 hi026 1 hsz26 (some ad183) x9_1.length co25 1 (by omega) q26
                          have hr26 := Kd.Q_drop (k := (1 : Int).toNat) HO_9.out (by omega)
                          obtain ⟨A26, hA26⟩ : ∃ A1, A1 = (if co25 = (1 : Int).toNat then (some ad183) else ((some ad183) : Option Addr).map (·.add ((1 : Int).toNat * 1))) := ⟨_, rfl⟩
                          obtain ⟨c26, hc26⟩ : ∃ c1, c1 = co25 - (1 : Int).toNat := ⟨_, rfl⟩
                          have hy26 : y184.length = x9_1.length - (1 : Int).toNat := (by rw [Ny184.out, List.length_drop])
                          rw [← Ny184.out] at hr26
                          rw [← hy26, ← hA26, ← hc26] at hcut26
                          replace hr26 : Kd.Q (Kd.int .i64) 3 wr w.heap.size (fun k_ => some k_ ≠ (.slice (some ⟨go11, 0, none⟩) x8_1.length co11 : Value).ownBlock) (.slice A26 y184.length c26) y184 := (by rw [hA26, hc26, hy26]; exact hr26)
                          have HE26 : Aside0 ((Value.slice A26 y184.length c26).ownBlock = (.slice (some ad183) x9_1.length co25 : Value).ownBlock) := ⟨by rw [hA26]; split <;> (cases ((some ad183) : Option Addr) <;> rfl)⟩
                          clear hy26 hi026 hsz26 HO_9 hA26 hc26
                          have HO186 := Aside0.mk hr26
                          clear hr26
                          replace q26 := eq_true q26
                          have n_ := Aside0.mk (Kd.R_mono (ok' := fun k_ => some k_ ≠ (.slice A26 y184.length c26 : Value).ownBlock) HO_8.out (fun k_ hk => (by rw [HE26.out]; exact hk)))
                          clear HO_8
                          have HO_8 := n_
                          clear n_
                          have p187 : 0 ≤ ((rd x9_1 0) : Int) := of_decide_eq_true (by first | (with_reducible assumption) | assumption)
                          have q187 : (rd x9_1 0) < (x8_1.length : Int) := of_decide_eq_true (by first | (with_reducible assumption) | assumption)
                          obtain ⟨ad187, e187, hx187_0⟩ := Kd.at_int (Kd.R_reads' HO_8.out).2.2 (rd x9_1 0) p187 q187
                          obtain rfl : (⟨go11, 0, none⟩ : Addr) = ad187 := (by injection e187)
                          (first | simp only [add_plain] at hx187_0 | simp only [add_at] at hx187_0 | simp only [Addr.add, Nat.zero_add] at hx187_0 | skip)
                          replace p187 := eq_true p187
                          replace q187 := eq_true q187
                          go_wp2
                          go_ret2
                          exact ⟨by first | rfl | (simp [errW_none, errW_some] <;> rfl) | (simp only [← hji5]; first | rfl | (simp [errW_none, errW_some] <;> rfl)) | (simp [*, errW_none, errW_some] <;> rfl), by repeat (first | (with_reducible first | exact HB.out | apply below_alloc | apply pw_below_drewN | apply below_drew1) | exact HB.out)⟩
                        · rw [if_neg c24] at H
                          exact absurd H (by simp)
                      · rw [if_neg c23] at H
                        exact absurd H (by simp)
                    · rw [if_neg c22] at H
                      have c22b0 : ((rd x9_1 0) == (wrap64 (a1 + (rd l0 (ji5))))) = false := beq_eq_false_iff_ne.mpr c22
                      have c22b1 : ((rd x9_1 0) != (wrap64 (a1 + (rd l0 (ji5))))) = true := bne_iff_ne.mpr c22
                      have H' := Aside0.mk H
                      clear H
                      obtain ⟨Ao27, co27, eo27, _⟩ := Kd.Q_slice HO_9.out
                      subst eo27
                      have p183 : 0 ≤ (0 : Int) := (by omega)
                      have q183 : 0 < (x9_1.length : Int) := of_decide_eq_true (by first | (with_reducible assumption) | assumption)
                      obtain ⟨ad183, e183, hx183_0⟩ := Kd.at_int (Kd.Q_reads' HO_9.out).2.2 0 p183 q183
                      cases e183
                      have qi183 : (0 < x9_1.length) = True := eq_true (by omega)
                      (try rw [show ((0 : Int)).toNat = 0 from rfl] at hx183_0)
                      (try rw [Addr.add_zero'] at hx183_0)
                      replace p183 := eq_true p183
                      replace q183 := eq_true q183
                      have q28 : (1 : Int) ≤ ((x9_1.length : Int) : Int) := of_decide_eq_true (by first | (with_reducible assumption) | assumption)
                      obtain ⟨i028, hi028, _, hsz28, _⟩ := info_parts info3
                      have hcut28 := cut_from (P := Try.prog) 22 3 .i64 Try.underlying22 hi028 1 hsz28 (some ad183) x9_1.length co27 1 (by omega) q28
                      have hr28 := Kd.Q_drop (k := (1 : Int).toNat) HO_9.out (by omega)
                      obtain ⟨A28, hA28⟩ : ∃ A1, A1 = (if co27 = (1 : Int).toNat then (some ad183) else ((some ad183) : Option Addr).map (·.add ((1 : Int).toNat * 1))) := ⟨_, rfl⟩
                      obtain ⟨c28, hc28⟩ : ∃ c1, c1 = co27 - (1 : Int).toNat := ⟨_, rfl⟩
                      have hy28 : y184.length = x9_1.length - (1 : Int).toNat := (by rw [Ny184.out, List.length_drop])
                      rw [← Ny184.out] at hr28
                      rw [← hy28, ← hA28, ← hc28] at hcut28
                      replace hr28 : Kd.Q (Kd.int .i64) 3 wr w.heap.size (fun k_ => some k_ ≠ (.slice (some ⟨go11, 0, none⟩) x8_1.length co11 : Value).ownBlock) (.slice A28 y184.length c28) y184 := (by rw [hA28, hc28, hy28]; exact hr28)
                      have HE28 : Aside0 ((Value.slice A28 y184.length c28).ownBlock = (.slice (some ad183) x9_1.length co27 : Value).ownBlock) := ⟨by rw [hA28]; split <;> (cases ((some ad183) : Option Addr) <;> rfl)⟩
                      clear hy28 hi028 hsz28 HO_9 hA28 hc28
                      have HO186 := Aside0.mk hr28
                      clear hr28
                      replace q28 := eq_true q28
                      have n_ := Aside0.mk (Kd.R_mono (ok' := fun k_ => some k_ ≠ (.slice A28 y184.length c28 : Value).ownBlock) HO_8.out (fun k_ hk => (by rw [HE28.out]; exact hk)))
                      clear HO_8
                      have HO_8 := n_
                      clear n_
                      go_wp2
                      go_loopg [9, 55] k1 (fun kq v9 v55 w' => ∃ (x8_2 : List Int) (x9_2 : List Int) (x55_2 : Int), v55 = .int .i64 x55_2 ∧ Aside0 (coins_Both.l1 kq l0 a1 (rd l0 (ji5)) x8_2 x9_2 (rd x9_1 0) l0 (l0.length : Int) x55_2 = some (r1, r2)) ∧ Aside0 (kq ≤ k1) ∧ Aside0 (Kd.R (Kd.int .i64) 3 w' w.heap.size (fun k_ => some k_ ≠ (v9 : Value).ownBlock) (.slice (some ⟨go11, 0, none⟩) x8_1.length co11) x8_2) ∧ Aside0 (Kd.Q (Kd.int .i64) 3 w' w.heap.size (fun k_ => some k_ ≠ ((.slice (some ⟨go11, 0, none⟩) x8_1.length co11) : Value).ownBlock) v9 x9_2) ∧ Aside0 (Below w.heap.size w w'))
                      case atStart => exact ⟨(x8_1), (y184), (0), (by first | rfl | (simp; done) | (simp [*]; done)), H', ⟨Nat.le_refl _⟩, ⟨by (try simp only [hl8_1]); (with_reducible repeat (first | apply Kd.R_alloc | apply Kd.R_drewN | apply Kd.R_drew)); exact HO_8.out⟩, ⟨by (try simp only [hl8_1]); (with_reducible repeat (first | apply Kd.Q_alloc | apply Kd.Q_drewN | apply Kd.Q_drew)); exact HO186.out⟩, ⟨by repeat (first | (with_reducible first | exact HB.out | apply below_alloc | apply pw_below_drewN | apply below_drew1) | exact HB.out)⟩⟩
                      case round =>
                        clear H'
                        try clear c1
                        try clear p1
                        try clear q1
                        try clear hx1
                        try clear qi1
                        try clear c2
                        try clear p2
                        try clear q2
                        try clear c3
                        try clear c4
                        try clear c4b0
                        try clear c4b1
                        try clear c6
                        try clear c6b0
                        try clear p6
                        try clear c7
                        try clear c7b0
                        try clear c9
                        try clear c9b0
                        try clear c10
                        try clear c10b0
                        try clear p11
                        try clear q11
                        try clear hx11
                        try clear hf11
                        try clear p17
                        try clear q17
                        try clear hx17
                        try clear p18
                        try clear q18
                        try clear hx18
                        try clear qi18
                        try clear c20
                        try clear c20b0
                        try clear c20b1
                        try clear c21
                        try clear c21b0
                        try clear c21b1
                        try clear c22
                        try clear c22b0
                        try clear c22b1
                        try clear c23
                        try clear c23b0
                        try clear c24
                        try clear c24b0
                        try clear c26
                        try clear q26
                        try clear c28
                        try clear q28
                        try clear hx11_0
                        try clear hx172_0
                        try clear hx183_0
                        try clear hx187_0
                        try clear p1
                        try clear p11
                        try clear p17
                        try clear p172
                        try clear p183
                        try clear p187
                        try clear p2
                        try clear p6
                        try clear q1
                        try clear q11
                        try clear q17
                        try clear q172
                        try clear q183
                        try clear q187
                        try clear q26
                        try clear q28
                        obtain ⟨x8_2, x9_2, x55_2, rfl, HA, HK2, HO_8, HO_9, HB⟩ := hrel
                        have hl8_2 := (Kd.R_reads' HO_8.out).1
                        rw [hl8_2] at HO_8
                        (try simp only [hl8_2])
                        (try simp only [hl8_2] at HO_9)
                        cases gk with
                        | zero => exact absurd HA.out (by simp [coins_Both.l1])
                        | succ k2 =>
                          have H := HA.out
                          clear HA
                          simp only [coins_Both.l1] at H
                          by_cases c29 : x55_2 < (l0.length : Int)
                          · rw [if_pos c29] at H
                            have c29b0 : decide (x55_2 < (l0.length : Int)) = true := decide_eq_true c29
                            clear c29
                            by_cases c30 : 0 ≤ x55_2
                            · rw [if_pos c30] at H
                              have c30b0 : decide (0 ≤ x55_2) = true := decide_eq_true c30
                              clear c30
                              by_cases c31 : x55_2 < (l0.length : Int)
                              · rw [if_pos c31] at H
                                have c31b0 : decide (x55_2 < (l0.length : Int)) = true := decide_eq_true c31
                                clear c31
                                obtain ⟨y189, hy189⟩ : ∃ y_ : List Int, y_ = (([wrap64 ((rd x9_1 0) - (rd l0 x55_2)), wrap64 ((rd x9_1 0) + (rd l0 x55_2))] : List Int)) := ⟨_, rfl⟩
                                replace H : (coins_Both.l2 k2 l0 a1 (rd l0 (ji5)) x8_2 x9_2 (rd x9_1 0) l0 (l0.length : Int) x55_2 y189 (y189.length : Int) 0) = some (r1, r2) := by first | (rw [hy189]; with_reducible exact H) | (have H2_ := (Option.bind_some _ _).symm.trans H; rw [hy189]; with_reducible exact H2_) | (have H2_ := (Option.bind_some _ _).symm.trans H; with_reducible exact H2_) | with_reducible exact H | (rw [hy189]; exact H) | exact H
                                have Ny189 := Aside0.mk hy189
                                clear hy189
                                have H' := Aside0.mk H
                                clear H
                                have p188 : 0 ≤ (x55_2 : Int) := of_decide_eq_true (by first | (with_reducible assumption) | assumption)
                                have q188 : x55_2 < (l0.length : Int) := of_decide_eq_true (by first | (with_reducible assumption) | assumption)
                                obtain ⟨ad188, e188, hx188_0⟩ := Kd.at_int HR0.out x55_2 p188 q188
                                obtain rfl : ad172 = ad188 := (by injection e188)
                                replace hx188_0 := (HB.out.cell (World.block_lt_of_cell? w _ hx188_0)).trans hx188_0
                                replace p188 := eq_true p188
                                replace q188 := eq_true q188
                                go_wp2_with (first | ((with_reducible refine gate_dst (N := 65) rfl ?_); (try (refine gate_guard (by rfl) ?_; dsimp only)); refine Kd.R_lit (Kd.int .i64) _ 3 ?hg (N := 65) ?hd (xs := ([wrap64 ((rd x9_1 0) - (rd l0 x55_2)), wrap64 ((rd x9_1 0) + (rd l0 x55_2))] : List Int)) (inner := [.int .i64 (wrap64 ((rd x9_1 0) - (rd l0 x55_2))), .int .i64 (wrap64 ((rd x9_1 0) + (rd l0 x55_2)))]) (ok := fun _ => True) (okp := fun _ => True) ?hr ?hp (fun _ hk => hk) trivial (Below.refl _ _) (Nat.le_refl _) (by simp) ?_; (case hd => rfl); (case hg => rfl); (case hr => first | (go_simp; done) | (go_simp; rfl)); (case hp => exact (Reps.one (show Kd.M (Kd.int .i64) _ _ _ (wrap64 ((rd x9_1 0) - (rd l0 x55_2))) [.int .i64 (wrap64 ((rd x9_1 0) - (rd l0 x55_2)))] from rfl) (Reps.one (show Kd.M (Kd.int .i64) _ _ _ (wrap64 ((rd x9_1 0) + (rd l0 x55_2))) [.int .i64 (wrap64 ((rd x9_1 0) + (rd l0 x55_2)))] from rfl) (Reps.none _ _)))); intro v190 w32 ho33 hb hg_ hnew_; clear hg_ hnew_; (first | rw [← Ny189.out] at ho33 | (simp only [Int.reduceToNat] at ho33; rw [← Ny189.out] at ho33)); have n0_ := Aside0.mk (Kd.R_elder' (by (with_reducible repeat (first | apply Kd.R_alloc | apply Kd.R_drewN | apply Kd.R_drew)); exact HO_8.out) (Kd.R_base ho33) hb); have n1_ := Aside0.mk (Kd.Q_elder' (by (with_reducible repeat (first | apply Kd.Q_alloc | apply Kd.Q_drewN | apply Kd.Q_drew)); exact HO_9.out) (Kd.R_base ho33) hb); have n2_ := Aside0.mk (Kd.R_lower (Kd.R_new' (Kd.R_new' ho33 (Kd.R_lt (by (with_reducible repeat (first | apply Kd.R_alloc | apply Kd.R_drewN | apply Kd.R_drew)); exact HO_8.out))) (Kd.Q_lt (by (with_reducible repeat (first | apply Kd.Q_alloc | apply Kd.Q_drewN | apply Kd.Q_drew)); exact HO_9.out))) (below_size (by repeat (first | (with_reducible first | exact HB.out | apply below_alloc | apply pw_below_drewN | apply below_drew1) | exact HB.out)))); have n3_ := Aside0.mk (below_step (by repeat (first | (with_reducible first | exact HB.out | apply below_alloc | apply pw_below_drewN | apply below_drew1) | exact HB.out)) hb); clear HO_8; clear HO_9; clear HB; have HO_8 := n0_; have HO_9 := n1_; have HO191 := n2_; have HB := n3_; clear n0_ n1_ n2_ n3_; clear hb ho33; obtain ⟨Ao34, co34, eo34⟩ := Kd.R_slice HO191.out; subst eo34))
                                go_loopg [9, 67] k2 (fun kq v9 v67 w' => ∃ (x8_3 : List Int) (x9_3 : List Int) (x67_3 : Int), v67 = .int .i64 x67_3 ∧ Aside0 (coins_Both.l2 kq l0 a1 (rd l0 (ji5)) x8_3 x9_3 (rd x9_1 0) l0 (l0.length : Int) x55_2 y189 (y189.length : Int) x67_3 = some (r1, r2)) ∧ Aside0 (kq ≤ k2) ∧ Aside0 (Kd.R (Kd.int .i64) 3 w' w.heap.size (fun k_ => some k_ ≠ (v9 : Value).ownBlock ∧ some k_ ≠ ((.slice Ao34 y189.length co34) : Value).ownBlock) (.slice (some ⟨go11, 0, none⟩) x8_2.length co11) x8_3) ∧ Aside0 (Kd.Q (Kd.int .i64) 3 w' w.heap.size (fun k_ => some k_ ≠ ((.slice (some ⟨go11, 0, none⟩) x8_2.length co11) : Value).ownBlock ∧ some k_ ≠ ((.slice Ao34 y189.length co34) : Value).ownBlock) v9 x9_3) ∧ Aside0 (Kd.R (Kd.int .i64) 3 w' w.heap.size (fun k_ => some k_ ≠ ((.slice (some ⟨go11, 0, none⟩) x8_2.length co11) : Value).ownBlock ∧ some k_ ≠ (v9 : Value).ownBlock) (.slice Ao34 y189.length co34) y189) ∧ Aside0 (Below w.heap.size w w'))
                                case atStart => exact ⟨(x8_2), (x9_2), (0), (by first | rfl | (simp; done) | (simp [*]; done)), H', ⟨Nat.le_refl _⟩, ⟨by (try simp only [hl8_1]); (try simp only [hl8_2]); (with_reducible repeat (first | apply Kd.R_alloc | apply Kd.R_drewN | apply Kd.R_drew)); exact HO_8.out⟩, ⟨by (try simp only [hl8_1]); (try simp only [hl8_2]); (with_reducible repeat (first | apply Kd.Q_alloc | apply Kd.Q_drewN | apply Kd.Q_drew)); exact HO_9.out⟩, ⟨by (try simp only [hl8_1]); (try simp only [hl8_2]); (with_reducible repeat (first | apply Kd.R_alloc | apply Kd.R_drewN | apply Kd.R_drew)); exact Kd.R_mono HO191.out (fun _ hk => ⟨hk.1.2, hk.2⟩)⟩, ⟨by repeat (first | (with_reducible first | exact HB.out | apply below_alloc | apply pw_below_drewN | apply below_drew1) | exact HB.out)⟩⟩
                                case round =>
                                  clear H'
                                  try clear c1
                                  try clear p1
                                  try clear q1
                                  try clear hx1
                                  try clear qi1
                                  try clear c2
                                  try clear p2
                                  try clear q2
                                  try clear c3
                                  try clear c4
                                  try clear c4b0
                                  try clear c4b1
                                  try clear c6
                                  try clear c6b0
                                  try clear p6
                                  try clear c7
                                  try clear c7b0
                                  try clear c9
                                  try clear c9b0
                                  try clear c10
                                  try clear c10b0
                                  try clear p11
                                  try clear q11
                                  try clear hx11
                                  try clear hf11
                                  try clear p17
                                  try clear q17
                                  try clear hx17
                                  try clear p18
                                  try clear q18
                                  try clear hx18
                                  try clear qi18
                                  try clear c20
                                  try clear c20b0
                                  try clear c20b1
                                  try clear c21
                                  try clear c21b0
                                  try clear c21b1
                                  try clear c22
                                  try clear c22b0
                                  try clear c22b1
                                  try clear c23
                                  try clear c23b0
                                  try clear c24
                                  try clear c24b0
                                  try clear c26
                                  try clear q26
                                  try clear c28
                                  try clear q28
                                  try clear c29
                                  try clear c29b0
                                  try clear c30
                                  try clear c30b0
                                  try clear c31
                                  try clear c31b0
                                  try clear hx11_0
                                  try clear hx172_0
                                  try clear hx183_0
                                  try clear hx187_0
                                  try clear hx188_0
                                  try clear p1
                                  try clear p11
                                  try clear p17
                                  try clear p172
                                  try clear p18
                                  try clear p183
                                  try clear p187
                                  try clear p188
                                  try clear p2
                                  try clear p6
                                  try clear q1
                                  try clear q11
                                  try clear q17
                                  try clear q172
                                  try clear q18
                                  try clear q183
                                  try clear q187
                                  try clear q188
                                  try clear q2
                                  try clear q26
                                  try clear q28
                                  obtain ⟨x8_3, x9_3, x67_3, rfl, HA, HK3, HO_8, HO_9, HO_65, HB⟩ := hrel
                                  have hl8_3 := (Kd.R_reads' HO_8.out).1
                                  rw [hl8_3] at HO_8
                                  (try simp only [hl8_3])
                                  (try simp only [hl8_3] at HO_9)
                                  (try simp only [hl8_3] at HO_65)
                                  cases gk with
                                  | zero => exact absurd HA.out (by simp [coins_Both.l2])
                                  | succ k3 =>
                                    have H := HA.out
                                    clear HA
                                    simp only [coins_Both.l2] at H
                                    by_cases c35 : x67_3 < (y189.length : Int)
                                    · rw [if_pos c35] at H
                                      have c35b0 : decide (x67_3 < (y189.length : Int)) = true := decide_eq_true c35
                                      clear c35
                                      by_cases c36 : 0 ≤ x67_3
                                      · rw [if_pos c36] at H
                                        have c36b0 : decide (0 ≤ x67_3) = true := decide_eq_true c36
                                        clear c36
                                        by_cases c37 : x67_3 < (y189.length : Int)
                                        · rw [if_pos c37] at H
                                          have c37b0 : decide (x67_3 < (y189.length : Int)) = true := decide_eq_true c37
                                          clear c37
                                          by_cases c38 : (rd y189 x67_3) ≥ 0
                                          · rw [if_pos c38] at H
                                            have c38b0 : decide (0 ≤ (rd y189 x67_3)) = true := decide_eq_true c38
                                            clear c38
                                            by_cases c39 : (rd y189 x67_3) < (x8_3.length : Int)
                                            · rw [if_pos c39] at H
                                              have c39b0 : decide ((rd y189 x67_3) < (x8_3.length : Int)) = true := decide_eq_true c39
                                              clear c39
                                              by_cases c40 : 0 ≤ (rd y189 x67_3)
                                              · rw [if_pos c40] at H
                                                have c40b0 : decide (0 ≤ (rd y189 x67_3)) = true := decide_eq_true c40
                                                clear c40
                                                by_cases c41 : (rd x8_3 (rd y189 x67_3)) < 0
                                                · rw [if_pos c41] at H
                                                  have c41b0 : decide ((rd x8_3 (rd y189 x67_3)) < 0) = true := decide_eq_true c41
                                                  clear c41
                                                  by_cases c42 : 0 ≤ (rd x9_1 0)
                                                  · rw [if_pos c42] at H
                                                    have c42b0 : decide (0 ≤ (rd x9_1 0)) = true := decide_eq_true c42
                                                    clear c42
                                                    by_cases c43 : (rd x9_1 0) < (x8_3.length : Int)
                                                    · rw [if_pos c43] at H
                                                      have c43b0 : decide ((rd x9_1 0) < (x8_3.length : Int)) = true := decide_eq_true c43
                                                      clear c43
                                                      obtain ⟨y195, hy195⟩ : ∃ y_ : List Int, y_ = (x8_3.set ((rd y189 x67_3) : Int).toNat (wrap64 ((rd x8_3 (rd x9_1 0)) + 1))) := ⟨_, rfl⟩
                                                      replace H : (if x9_3.length < 17592186044416 then (coins_Both.l2 k3 l0 a1 (rd l0 (ji5)) y195 (x9_3 ++ [rd y189 x67_3]) (rd x9_1 0) l0 (l0.length : Int) x55_2 y189 (y189.length : Int) (wrap64 (x67_3 + 1))) else (none)) = some (r1, r2) := by first | (rw [hy195]; with_reducible exact H) | (have H2_ := (Option.bind_some _ _).symm.trans H; rw [hy195]; with_reducible exact H2_) | (have H2_ := (Option.bind_some _ _).symm.trans H; with_reducible exact H2_) | with_reducible exact H | (rw [hy195]; exact H) | exact H
                                                      have Ny195 := Aside0.mk hy195
                                                      clear hy195
                                                      by_cases c45 : x9_3.length < 17592186044416
                                                      · rw [if_pos c45] at H
                                                        have LMc45 := Aside0.mk c45
                                                        clear c45
                                                        obtain ⟨y196, hy196⟩ : ∃ y_ : List Int, y_ = (x9_3 ++ [rd y189 x67_3]) := ⟨_, rfl⟩
                                                        replace H : (coins_Both.l2 k3 l0 a1 (rd l0 (ji5)) y195 y196 (rd x9_1 0) l0 (l0.length : Int) x55_2 y189 (y189.length : Int) (wrap64 (x67_3 + 1))) = some (r1, r2) := by first | (rw [hy196]; with_reducible exact H) | (have H2_ := (Option.bind_some _ _).symm.trans H; rw [hy196]; with_reducible exact H2_) | (have H2_ := (Option.bind_some _ _).symm.trans H; with_reducible exact H2_) | with_reducible exact H | (rw [hy196]; exact H) | exact H
                                                        have Ny196 := Aside0.mk hy196
                                                        clear hy196
                                                        have H' := Aside0.mk H
                                                        clear H
                                                        have p192 : 0 ≤ (x67_3 : Int) := of_decide_eq_true (by first | (with_reducible assumption) | assumption)
                                                        have q192 : x67_3 < (y189.length : Int) := of_decide_eq_true (by first | (with_reducible assumption) | assumption)
                                                        obtain ⟨ad192, e192, hx192_0⟩ := Kd.at_int (Kd.R_reads' HO_65.out).2.2 x67_3 p192 q192
                                                        cases e192
                                                        replace p192 := eq_true p192
                                                        replace q192 := eq_true q192
                                                        have p193 : 0 ≤ ((rd y189 x67_3) : Int) := of_decide_eq_true (by first | (with_reducible assumption) | assumption)
                                                        have q193 : (rd y189 x67_3) < (x8_3.length : Int) := of_decide_eq_true (by first | (with_reducible assumption) | assumption)
                                                        obtain ⟨ad193, e193, hx193_0⟩ := Kd.at_int (Kd.R_reads' HO_8.out).2.2 (rd y189 x67_3) p193 q193
                                                        obtain rfl : (⟨go11, 0, none⟩ : Addr) = ad193 := (by injection e193)
                                                        (first | simp only [add_plain] at hx193_0 | simp only [add_at] at hx193_0 | simp only [Addr.add, Nat.zero_add] at hx193_0 | skip)
                                                        replace p193 := eq_true p193
                                                        replace q193 := eq_true q193
                                                        have p194 : 0 ≤ ((rd x9_1 0) : Int) := of_decide_eq_true (by first | (with_reducible assumption) | assumption)
                                                        have q194 : (rd x9_1 0) < (x8_3.length : Int) := of_decide_eq_true (by first | (with_reducible assumption) | assumption)
                                                        obtain ⟨ad194, e194, hx194_0⟩ := Kd.at_int (Kd.R_reads' HO_8.out).2.2 (rd x9_1 0) p194 q194
                                                        obtain rfl : (⟨go11, 0, none⟩ : Addr) = ad194 := (by injection e194)
                                                        (first | simp only [add_plain] at hx194_0 | simp only [add_at] at hx194_0 | simp only [Addr.add, Nat.zero_add] at hx194_0 | skip)
                                                        replace p194 := eq_true p194
                                                        replace q194 := eq_true q194
                                                        have p44 : 0 ≤ ((rd y189 x67_3) : Int) := of_decide_eq_true (by first | (with_reducible assumption) | assumption)
                                                        have q44 : ((rd y189 x67_3) : Int) < ((x8_3.length : Int) : Int) := of_decide_eq_true (by first | (with_reducible assumption) | assumption)
                                                        obtain ⟨hx44_0, hf44_0⟩ := Kd.R_celln 0 HO_8.out ((rd y189 x67_3) : Int) p44 q44
                                                        replace p44 := eq_true p44
                                                        replace q44 := eq_true q44
                                                        have HP46 := Kd.R_putg HO_8.out ((rd y189 x67_3) : Int) (wrap64 ((rd x8_3 (rd x9_1 0)) + 1))
                                                        go_wp2_with (first | ((with_reducible refine gate_store (t := 3) (p := 93) rfl ?_); refine store_event (t := 3) (p := 93) (v := ?vo_w47) (w1 := (wr.setCell ⟨go11, ((rd y189 x67_3) : Int).toNat, none⟩ (.int .i64 (wrap64 ((rd x8_3 (rd x9_1 0)) + 1))))) ?hg ?ho ?hn ?hr ?_; (case ho => rfl); (case hg => rfl); (case hn => rfl); (case hr => first | (go_simp; done) | (go_simp; rfl)); intro w47 hw; have hg : wr.grownBy w47 (some go11) := (by rw [hw]; exact HP46.2); have hp_ : Kd.R (Kd.int .i64) 3 w47 w.heap.size (fun k_ => some k_ ≠ (u9 : Value).ownBlock ∧ some k_ ≠ (.slice (some ad192) y189.length co34 : Value).ownBlock) (.slice (some ⟨go11, 0, none⟩) x8_3.length co11) y195 := (by rw [hw, Ny195.out]; exact HP46.1); clear HP46; have n0_ := Aside0.mk (hp_); have n1_ := Aside0.mk (Kd.Q_after (v := (.slice (some ⟨go11, 0, none⟩) x8_3.length co11)) (v1 := (.slice (some ⟨go11, 0, none⟩) x8_3.length co11)) (ok := (fun k_ => some k_ ≠ (.slice (some ad192) y189.length co34 : Value).ownBlock)) (by (with_reducible repeat (first | apply Kd.Q_alloc | apply Kd.Q_drewN | apply Kd.Q_drew)); exact Kd.Q_mono HO_9.out (fun _ hk => ⟨hk.2, hk.1⟩)) hg (.inl rfl)); have n2_ := Aside0.mk (Kd.R_after (v := (.slice (some ⟨go11, 0, none⟩) x8_3.length co11)) (v1 := (.slice (some ⟨go11, 0, none⟩) x8_3.length co11)) (ok := (fun k_ => some k_ ≠ (u9 : Value).ownBlock)) (by (with_reducible repeat (first | apply Kd.R_alloc | apply Kd.R_drewN | apply Kd.R_drew)); exact Kd.R_mono HO_65.out (fun _ hk => ⟨hk.2, hk.1⟩)) hg (.inl rfl)); have n3_ := Aside0.mk ((by rw [hw]; exact below_set (HB.out) GB11.out : Below w.heap.size w w47)); clear HO_8; clear HO_9; clear HO_65; clear HB; have HO_8 := n0_; have HO_9 := n1_; have HO_65 := n2_; have HB := n3_; clear n0_ n1_ n2_ n3_; clear hg hw hp_) | ((with_reducible refine gate_builtin (b := .append) (xs := #[.tmp 94, .tmp 96]) rfl ?_); (try (refine gate_guard (by rfl) ?_; dsimp only)); at_builtin; refine Kd.Q_append (Kd.int .i64) (w0 := w) w.heap.size rfl (.tmp 94) (.tmp 96) 22 3 (.int .i64 0) 8 rfl Try.underlying22 info3 rfl (by decide) (by omega) u9 x9_3 (rd y189 x67_3) [.int .i64 (rd y189 x67_3)] (fun k_ => some k_ ≠ (.slice (some ⟨go11, 0, none⟩) x8_3.length co11 : Value).ownBlock ∧ some k_ ≠ (.slice (some ad192) y189.length co34 : Value).ownBlock) (fun _ => False) rfl rfl ?aP (fun _ hk => hk.elim) ?aF ?aO ?aB ?aS ?aL ?_; (case aP => exact rfl); (case aB => exact (by repeat (first | (with_reducible first | exact HB.out | apply below_alloc | apply pw_below_drewN | apply below_drew1) | exact HB.out))); (case aF => exact (fun k_ hk => ⟨Kd.fresh' (Kd.R_lt (by (with_reducible repeat (first | apply Kd.R_alloc | apply Kd.R_drewN | apply Kd.R_drew)); exact HO_8.out)) k_ hk, Kd.fresh' (Kd.R_lt (by (with_reducible repeat (first | apply Kd.R_alloc | apply Kd.R_drewN | apply Kd.R_drew)); exact HO_65.out)) k_ hk⟩)); (case aO => exact (by (with_reducible repeat (first | apply Kd.Q_alloc | apply Kd.Q_drewN | apply Kd.Q_drew)); exact Kd.Q_mono HO_9.out (fun _ hk => ⟨hk.2, hk.1⟩))); (case aS => exact (below_size (by repeat (first | (with_reducible first | exact HB.out | apply below_alloc | apply pw_below_drewN | apply below_drew1) | exact HB.out)))); (case aL => have := LMc45.out; omega); intro v197 w48 ho hb hg hat; rw [← Ny196.out] at ho; have n0_ := Aside0.mk (Kd.R_after (ok := (fun k_ => some k_ ≠ (.slice (some ad192) y189.length co34 : Value).ownBlock)) (by (with_reducible repeat (first | apply Kd.R_alloc | apply Kd.R_drewN | apply Kd.R_drew)); exact Kd.R_mono HO_8.out (fun _ hk => ⟨hk.2, hk.1⟩)) hg hat); have n1_ := Aside0.mk (Kd.R_after (ok := (fun k_ => some k_ ≠ (.slice (some ⟨go11, 0, none⟩) x8_3.length co11 : Value).ownBlock)) (by (with_reducible repeat (first | apply Kd.R_alloc | apply Kd.R_drewN | apply Kd.R_drew)); exact Kd.R_mono HO_65.out (fun _ hk => ⟨hk.2, hk.1⟩)) hg hat); have n2_ := Aside0.mk (hb); have n3_ := Aside0.mk (ho); clear HO_8; clear HO_65; clear HB; clear HO_9; have HO_8 := n0_; have HO_65 := n1_; have HB := n2_; have HO198 := n3_; clear n0_ n1_ n2_ n3_; clear ho hb hg hat))
                                                        (try simp only [← hl8_3])
                                                        go_roundg k3
                                                        case measure => have := HK1.out; have := HK2.out; have := HK3.out; omega
                                                        case rel => exact ⟨(y195), (y196), (wrap64 (x67_3 + 1)), (by first | rfl | (simp; done) | (simp [*]; done)), H', ⟨by have := HK1.out; have := HK2.out; have := HK3.out; omega⟩, ⟨by (try simp only [hl8_1]); (try simp only [hl8_2]); (try simp only [hl8_3]); (with_reducible repeat (first | apply Kd.R_alloc | apply Kd.R_drewN | apply Kd.R_drew)); exact Kd.R_mono HO_8.out (fun _ hk => ⟨hk.2, hk.1⟩)⟩, ⟨by (try simp only [hl8_1]); (try simp only [hl8_2]); (try simp only [hl8_3]); (with_reducible repeat (first | apply Kd.Q_alloc | apply Kd.Q_drewN | apply Kd.Q_drew)); exact HO198.out⟩, ⟨by (try simp only [hl8_1]); (try simp only [hl8_2]); (try simp only [hl8_3]); (with_reducible repeat (first | apply Kd.R_alloc | apply Kd.R_drewN | apply Kd.R_drew)); exact HO_65.out⟩, ⟨by repeat (first | (with_reducible first | exact HB.out | apply below_alloc | apply pw_below_drewN | apply below_drew1) | exact HB.out)⟩⟩
                                                      · rw [if_neg c45] at H
                                                        exact absurd H (by simp)
                                                    · rw [if_neg c43] at H
                                                      exact absurd H (by simp)
                                                  · rw [if_neg c42] at H
                                                    exact absurd H (by simp)
                                                · rw [if_neg c41] at H
                                                  have c41b0 : decide ((rd x8_3 (rd y189 x67_3)) < 0) = false := decide_eq_false c41
                                                  clear c41
                                                  have H' := Aside0.mk H
                                                  clear H
                                                  have p192 : 0 ≤ (x67_3 : Int) := of_decide_eq_true (by first | (with_reducible assumption) | assumption)
                                                  have q192 : x67_3 < (y189.length : Int) := of_decide_eq_true (by first | (with_reducible assumption) | assumption)
                                                  obtain ⟨ad192, e192, hx192_0⟩ := Kd.at_int (Kd.R_reads' HO_65.out).2.2 x67_3 p192 q192
                                                  cases e192
                                                  replace p192 := eq_true p192
                                                  replace q192 := eq_true q192
                                                  have p193 : 0 ≤ ((rd y189 x67_3) : Int) := of_decide_eq_true (by first | (with_reducible assumption) | assumption)
                                                  have q193 : (rd y189 x67_3) < (x8_3.length : Int) := of_decide_eq_true (by first | (with_reducible assumption) | assumption)
                                                  obtain ⟨ad193, e193, hx193_0⟩ := Kd.at_int (Kd.R_reads' HO_8.out).2.2 (rd y189 x67_3) p193 q193
                                                  obtain rfl : (⟨go11, 0, none⟩ : Addr) = ad193 := (by injection e193)
                                                  (first | simp only [add_plain] at hx193_0 | simp only [add_at] at hx193_0 | simp only [Addr.add, Nat.zero_add] at hx193_0 | skip)
                                                  replace p193 := eq_true p193
                                                  replace q193 := eq_true q193
                                                  go_wp2
                                                  (try simp only [← hl8_3])
                                                  go_roundg k3
                                                  case measure => have := HK1.out; have := HK2.out; have := HK3.out; omega
                                                  case rel => exact ⟨(x8_3), (x9_3), (wrap64 (x67_3 + 1)), (by first | rfl | (simp; done) | (simp [*]; done)), H', ⟨by have := HK1.out; have := HK2.out; have := HK3.out; omega⟩, ⟨by (try simp only [hl8_1]); (try simp only [hl8_2]); (try simp only [hl8_3]); (with_reducible repeat (first | apply Kd.R_alloc | apply Kd.R_drewN | apply Kd.R_drew)); exact HO_8.out⟩, ⟨by (try simp only [hl8_1]); (try simp only [hl8_2]); (try simp only [hl8_3]); (with_reducible repeat (first | apply Kd.Q_alloc | apply Kd.Q_drewN | apply Kd.Q_drew)); exact HO_9.out⟩, ⟨by (try simp only [hl8_1]); (try simp only [hl8_2]); (try simp only [hl8_3]); (with_reducible repeat (first | apply Kd.R_alloc | apply Kd.R_drewN | apply Kd.R_drew)); exact HO_65.out⟩, ⟨by repeat (first | (with_reducible first | exact HB.out | apply below_alloc | apply pw_below_drewN | apply below_drew1) | exact HB.out)⟩⟩
                                              · rw [if_neg c40] at H
                                                exact absurd H (by simp)
                                            · rw [if_neg c39] at H
                                              have c39b0 : decide ((rd y189 x67_3) < (x8_3.length : Int)) = false := decide_eq_false c39
                                              clear c39
                                              have H' := Aside0.mk H
                                              clear H
                                              have p192 : 0 ≤ (x67_3 : Int) := of_decide_eq_true (by first | (with_reducible assumption) | assumption)
                                              have q192 : x67_3 < (y189.length : Int) := of_decide_eq_true (by first | (with_reducible assumption) | assumption)
                                              obtain ⟨ad192, e192, hx192_0⟩ := Kd.at_int (Kd.R_reads' HO_65.out).2.2 x67_3 p192 q192
                                              cases e192
                                              replace p192 := eq_true p192
                                              replace q192 := eq_true q192
                                              go_wp2
                                              (try simp only [← hl8_3])
                                              go_roundg k3
                                              case measure => have := HK1.out; have := HK2.out; have := HK3.out; omega
                                              case rel => exact ⟨(x8_3), (x9_3), (wrap64 (x67_3 + 1)), (by first | rfl | (simp; done) | (simp [*]; done)), H', ⟨by have := HK1.out; have := HK2.out; have := HK3.out; omega⟩, ⟨by (try simp only [hl8_1]); (try simp only [hl8_2]); (try simp only [hl8_3]); (with_reducible repeat (first | apply Kd.R_alloc | apply Kd.R_drewN | apply Kd.R_drew)); exact HO_8.out⟩, ⟨by (try simp only [hl8_1]); (try simp only [hl8_2]); (try simp only [hl8_3]); (with_reducible repeat (first | apply Kd.Q_alloc | apply Kd.Q_drewN | apply Kd.Q_drew)); exact HO_9.out⟩, ⟨by (try simp only [hl8_1]); (try simp only [hl8_2]); (try simp only [hl8_3]); (with_reducible repeat (first | apply Kd.R_alloc | apply Kd.R_drewN | apply Kd.R_drew)); exact HO_65.out⟩, ⟨by repeat (first | (with_reducible first | exact HB.out | apply below_alloc | apply pw_below_drewN | apply below_drew1) | exact HB.out)⟩⟩
                                          · rw [if_neg c38] at H
                                            have c38b0 : decide (0 ≤ (rd y189 x67_3)) = false := decide_eq_false c38
                                            clear c38
                                            have H' := Aside0.mk H
                                            clear H
                                            have p192 : 0 ≤ (x67_3 : Int) := of_decide_eq_true (by first | (with_reducible assumption) | assumption)
                                            have q192 : x67_3 < (y189.length : Int) := of_decide_eq_true (by first | (with_reducible assumption) | assumption)
                                            obtain ⟨ad192, e192, hx192_0⟩ := Kd.at_int (Kd.R_reads' HO_65.out).2.2 x67_3 p192 q192
                                            cases e192
                                            replace p192 := eq_true p192
                                            replace q192 := eq_true q192
                                            go_wp2
                                            (try simp only [← hl8_3])
                                            go_roundg k3
                                            case measure => have := HK1.out; have := HK2.out; have := HK3.out; omega
                                            case rel => exact ⟨(x8_3), (x9_3), (wrap64 (x67_3 + 1)), (by first | rfl | (simp; done) | (simp [*]; done)), H', ⟨by have := HK1.out; have := HK2.out; have := HK3.out; omega⟩, ⟨by (try simp only [hl8_1]); (try simp only [hl8_2]); (try simp only [hl8_3]); (with_reducible repeat (first | apply Kd.R_alloc | apply Kd.R_drewN | apply Kd.R_drew)); exact HO_8.out⟩, ⟨by (try simp only [hl8_1]); (try simp only [hl8_2]); (try simp only [hl8_3]); (with_reducible repeat (first | apply Kd.Q_alloc | apply Kd.Q_drewN | apply Kd.Q_drew)); exact HO_9.out⟩, ⟨by (try simp only [hl8_1]); (try simp only [hl8_2]); (try simp only [hl8_3]); (with_reducible repeat (first | apply Kd.R_alloc | apply Kd.R_drewN | apply Kd.R_drew)); exact HO_65.out⟩, ⟨by repeat (first | (with_reducible first | exact HB.out | apply below_alloc | apply pw_below_drewN | apply below_drew1) | exact HB.out)⟩⟩
                                        · rw [if_neg c37] at H
                                          exact absurd H (by simp)
                                      · rw [if_neg c36] at H
                                        exact absurd H (by simp)
                                    · rw [if_neg c35] at H
                                      have c35b0 : decide (x67_3 < (y189.length : Int)) = false := decide_eq_false c35
                                      clear c35
                                      have H' := Aside0.mk H
                                      clear H
                                      go_wp2
                                      (try simp only [← hl8_2, ← hl8_3])
                                      go_roundg k3
                                      case measure => have := HK1.out; have := HK2.out; have := HK3.out; omega
                                      case rel => exact ⟨(x8_3), (x9_3), (wrap64 (x55_2 + 1)), (by first | rfl | (simp; done) | (simp [*]; done)), H', ⟨by have := HK1.out; have := HK2.out; have := HK3.out; omega⟩, ⟨by (try simp only [hl8_1]); (try simp only [hl8_2]); (try simp only [hl8_3]); (with_reducible repeat (first | apply Kd.R_alloc | apply Kd.R_drewN | apply Kd.R_drew)); exact Kd.R_mono HO_8.out (fun _ hk => hk.1)⟩, ⟨by (try simp only [hl8_1]); (try simp only [hl8_2]); (try simp only [hl8_3]); (with_reducible repeat (first | apply Kd.Q_alloc | apply Kd.Q_drewN | apply Kd.Q_drew)); exact Kd.Q_mono HO_9.out (fun _ hk => hk.1)⟩, ⟨by repeat (first | (with_reducible first | exact HB.out | apply below_alloc | apply pw_below_drewN | apply below_drew1) | exact HB.out)⟩⟩
                              · rw [if_neg c31] at H
                                exact absurd H (by simp)
                            · rw [if_neg c30] at H
                              exact absurd H (by simp)
                          · rw [if_neg c29] at H
                            have c29b0 : decide (x55_2 < (l0.length : Int)) = false := decide_eq_false c29
                            clear c29
                            have H' := Aside0.mk H
                            clear H
                            go_wp2
                            (try simp only [← hl8_1, ← hl8_2])
                            go_roundg k2
                            case measure => have := HK1.out; have := HK2.out; omega
                            case rel => exact ⟨(x8_2), (x9_2), H', ⟨by have := HK1.out; have := HK2.out; omega⟩, ⟨by (try simp only [hl8_1]); (try simp only [hl8_2]); (with_reducible repeat (first | apply Kd.R_alloc | apply Kd.R_drewN | apply Kd.R_drew)); exact HO_8.out⟩, ⟨by (try simp only [hl8_1]); (try simp only [hl8_2]); (with_reducible repeat (first | apply Kd.Q_alloc | apply Kd.Q_drewN | apply Kd.Q_drew)); exact HO_9.out⟩, ⟨by repeat (first | (with_reducible first | exact HB.out | apply below_alloc | apply pw_below_drewN | apply below_drew1) | exact HB.out)⟩⟩
                  · rw [if_neg c21] at H
                    exact absurd H (by simp)
                · rw [if_neg c20] at H
                  exact absurd H (by simp)
          · rw [if_neg c10] at H
            exact absurd H (by simp)
        · rw [if_neg c9] at H
          exact absurd H (by simp)
      · rw [if_neg c7] at H
        exact absurd H (by simp)
    · rw [if_neg c6] at H
      exact absurd H (by simp)
  · rw [if_neg c4] at H
    have c4b0 : (t171 == 0) = false := beq_eq_false_iff_ne.mpr c4
    have c4b1 : (t171 != 0) = true := bne_iff_ne.mpr c4
    simp only [Option.some.injEq, Prod.mk.injEq] at H
    obtain ⟨rfl, rfl⟩ := H
    go_enter Try.func28, Try.ntmps28
    go_wp2_with (first | ((with_reducible refine gate_callee (f := 30) rfl ?_); refine goesL_ (some 17) rfl rfl Try.func30 (by kernel_rfl) rfl #[.slice A0 l0.length c0, .int .i64 a1, .int .i64 100000] rfl (by (try simp only [List.map_toArray, List.map_cons, List.map_nil]); first | done | rfl | (simp only [List.length_drop, List.length_take]; rfl)) ?_; (with_reducible refine (coins_looked.calls k _ _ l0 a1 100000 t171 _ ?side1 ?side2 A3.out).mono ?_); (case side1 => repeat (first | exact HR0.out | (with_reducible refine Kd.C_alloc ?_ _) | (with_reducible refine Kd.C_drewN ?_ _) | (with_reducible refine Kd.C_drew ?_))); (case side2 => exact HC0.out); rintro e w' ⟨rfl, ⟨nd, rfl⟩⟩; refine ⟨_, rfl, ?_⟩))
    go_ret2
    exact ⟨by first | rfl | (simp [errW_none, errW_some] <;> rfl) | (simp [*, errW_none, errW_some] <;> rfl), by repeat (first | (with_reducible first | exact HB.out | apply below_alloc | apply pw_below_drewN | apply below_drew1) | exact HB.out)⟩

end Go.Proofs.Ytgbalmjnjpfopaa.PC
