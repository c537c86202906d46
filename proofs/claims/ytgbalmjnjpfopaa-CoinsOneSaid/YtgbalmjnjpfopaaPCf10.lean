-- Printed by a program of this session (mkprint.sh, over the kit's print.py), with own proofs for the functions that the print does not take.
import Derived.Test.YtgbalmjnjpfopaaPCf18
import Derived.Test.YtgbalmjnjpfopaaPCf24
import Derived.Test.YtgbalmjnjpfopaaPCg1
import Derived.Test.YtgbalmjnjpfopaaPCg3
import Derived.Test.YtgbalmjnjpfopaaPCx0
namespace Go.Proofs.Ytgbalmjnjpfopaa.PC
open Go.RowKit Go.Proofs.YtgbalmjnjpfopaaW.PrintWords Go.Proofs.YtgbalmjnjpfopaaW.PrintLast Go.Proofs.YtgbalmjnjpfopaaW.PrintMore
attribute [local go_sem] max2_int min2_int max_two min_two max_three min_three max_four min_four   -- for this text's walks alone
set_option linter.unusedVariables false
set_option linter.unusedSimpArgs false

/-! ### pomadelaw05_CoinsOne: function 10 -/
mutual
def pomadelaw05_CoinsOne.j0 : Nat → List Int → Int → Bool → Option (Bool)
  | 0, _, _, _ => none
  | k + 1, x0, x1, x32 => if x32 = true then ((pomadelaw05_alive.f k).bind fun t416 => (some t416)) else (if 0 ≤ (wrap64 ((x0.length : Int) - 1)) then (if (wrap64 ((x0.length : Int) - 1)) < (x0.length : Int) then (if (wrap64 (5000 - (rd x0 (wrap64 ((x0.length : Int) - 1))))) = 0 then (none) else ((coins_Fails.f k x0).bind fun bt418 => (if bt418.2 = 10 then (if (rd x0 (wrap64 ((x0.length : Int) - 1))) = 0 then (none) else ((coins_Greedy.f k x0 (wrap64 ((wrap64 ((wrap64 (Int.tdiv (wrap64 ((wrap64 ((wrap64 ((wrap64 ((rd x0 (wrap64 ((x0.length : Int) - 1))) + 1)) + (Int.tmod (wrap64 (x1)) (wrap64 (5000 - (rd x0 (wrap64 ((x0.length : Int) - 1)))))))) + (rd x0 (wrap64 ((x0.length : Int) - 1))))) - 1)) (rd x0 (wrap64 ((x0.length : Int) - 1))))) * (rd x0 (wrap64 ((x0.length : Int) - 1))))) - (wrap64 ((wrap64 ((rd x0 (wrap64 ((x0.length : Int) - 1))) + 1)) + (Int.tmod (wrap64 (x1)) (wrap64 (5000 - (rd x0 (wrap64 ((x0.length : Int) - 1))))))))))).bind fun bt421 => ((coins_Extend.f k x0 (wrap64 ((wrap64 ((rd x0 (wrap64 ((x0.length : Int) - 1))) + 1)) + (Int.tmod (wrap64 (x1)) (wrap64 (5000 - (rd x0 (wrap64 ((x0.length : Int) - 1))))))))).bind fun bt425 => (if bt421.2 = 0 then (pomadelaw05_CoinsOne.j1 k (wrap64 (Int.tdiv (wrap64 ((wrap64 ((wrap64 ((wrap64 ((rd x0 (wrap64 ((x0.length : Int) - 1))) + 1)) + (Int.tmod (wrap64 (x1)) (wrap64 (5000 - (rd x0 (wrap64 ((x0.length : Int) - 1)))))))) + (rd x0 (wrap64 ((x0.length : Int) - 1))))) - 1)) (rd x0 (wrap64 ((x0.length : Int) - 1))))) bt421.1 bt425.1 (bt425.2 != 0)) else (pomadelaw05_CoinsOne.j1 k (wrap64 (Int.tdiv (wrap64 ((wrap64 ((wrap64 ((wrap64 ((rd x0 (wrap64 ((x0.length : Int) - 1))) + 1)) + (Int.tmod (wrap64 (x1)) (wrap64 (5000 - (rd x0 (wrap64 ((x0.length : Int) - 1)))))))) + (rd x0 (wrap64 ((x0.length : Int) - 1))))) - 1)) (rd x0 (wrap64 ((x0.length : Int) - 1))))) bt421.1 bt425.1 true))))) else (if bt418.2 = 0 then ((pomadelaw05_alive.f k).bind fun t420 => (some t420)) else (some false))))) else (none)) else (none))
def pomadelaw05_CoinsOne.j1 : Nat → Int → List Int → Bool → Bool → Option (Bool)
  | 0, _, _, _, _ => none
  | k + 1, x9, x10, x12, x87 => if x87 = true then (some false) else (pomadelaw05_CoinsOne.l0 k x9 x10 x12 0 0)
def pomadelaw05_CoinsOne.l0 : Nat → Int → List Int → Bool → Int → Int → Option (Bool)
  | 0, _, _, _, _, _ => none
  | k + 1, x9, x10, x12, x14, x15 => if x15 < (x10.length : Int) then (if 0 ≤ x15 then (pomadelaw05_CoinsOne.l0 k x9 x10 x12 (wrap64 (x14 + (rd x10 x15))) (wrap64 (x15 + 1))) else (none)) else (if (x12 == (decide (x14 < x9))) = true then ((pomadelaw05_alive.f k).bind fun t428 => (some t428)) else (some false))
end
def pomadelaw05_CoinsOne.f (k : Nat) (l0 : List Int) (a1 : Int) : Option (Bool) := if (l0.length : Int) ≥ 15 then (pomadelaw05_CoinsOne.j0 k l0 a1 true) else ((pomaderef05_IsSystem.f k l0).bind fun t414 => (if t414 = true then (if 0 ≤ (wrap64 ((l0.length : Int) - 1)) then (if (wrap64 ((l0.length : Int) - 1)) < (l0.length : Int) then (pomadelaw05_CoinsOne.j0 k l0 a1 (decide ((rd l0 (wrap64 ((l0.length : Int) - 1))) ≥ 5000))) else (none)) else (none)) else (pomadelaw05_CoinsOne.j0 k l0 a1 true)))
theorem pomadelaw05_CoinsOne.mono_l : ∀ k, (∀ y0 y1 y2, LeO (pomadelaw05_CoinsOne.j0 k y0 y1 y2) (pomadelaw05_CoinsOne.j0 (k + 1) y0 y1 y2)) ∧ (∀ y0 y1 y2 y3, LeO (pomadelaw05_CoinsOne.j1 k y0 y1 y2 y3) (pomadelaw05_CoinsOne.j1 (k + 1) y0 y1 y2 y3)) ∧ (∀ y0 y1 y2 y3 y4, LeO (pomadelaw05_CoinsOne.l0 k y0 y1 y2 y3 y4) (pomadelaw05_CoinsOne.l0 (k + 1) y0 y1 y2 y3 y4))
  | 0 => ⟨fun _ _ _ r h => by simp [pomadelaw05_CoinsOne.j0] at h, fun _ _ _ _ r h => by simp [pomadelaw05_CoinsOne.j1] at h, fun _ _ _ _ _ r h => by simp [pomadelaw05_CoinsOne.l0] at h⟩
  | k + 1 => by
    obtain ⟨ih0, ih1, ih2⟩ := pomadelaw05_CoinsOne.mono_l k
    refine ⟨?_, ?_, ?_⟩
    · intro y0 y1 y2
      unfold pomadelaw05_CoinsOne.j0
      repeat' first
      | (with_reducible exact ih0 _ _ _)
      | (with_reducible exact ih1 _ _ _ _)
      | (with_reducible exact ih2 _ _ _ _ _)
      | (with_reducible exact coins_Extend.mono _ _ _)
      | (with_reducible exact coins_Fails.mono _ _)
      | (with_reducible exact coins_Greedy.mono _ _ _)
      | (with_reducible exact pomadelaw05_alive.mono _)
      | (with_reducible exact pomaderef05_IsSystem.mono _ _)
      | (with_reducible exact LeO.refl _)
      | (with_reducible exact LeO.none _)
      | (with_reducible refine LeO.ite ?_ ?_)
      | (with_reducible refine LeO.bind ?_ (fun _ => ?_))
      | exact ih0 _ _ _
      | exact ih1 _ _ _ _
      | exact ih2 _ _ _ _ _
      | exact coins_Extend.mono _ _ _
      | exact coins_Fails.mono _ _
      | exact coins_Greedy.mono _ _ _
      | exact pomadelaw05_alive.mono _
      | exact pomaderef05_IsSystem.mono _ _
      | exact LeO.none _
      | refine LeO.ite ?_ ?_
      | refine LeO.bind ?_ (fun _ => ?_)
    · intro y0 y1 y2 y3
      unfold pomadelaw05_CoinsOne.j1
      repeat' first
      | (with_reducible exact ih0 _ _ _)
      | (with_reducible exact ih1 _ _ _ _)
      | (with_reducible exact ih2 _ _ _ _ _)
      | (with_reducible exact coins_Extend.mono _ _ _)
      | (with_reducible exact coins_Fails.mono _ _)
      | (with_reducible exact coins_Greedy.mono _ _ _)
      | (with_reducible exact pomadelaw05_alive.mono _)
      | (with_reducible exact pomaderef05_IsSystem.mono _ _)
      | (with_reducible exact LeO.refl _)
      | (with_reducible exact LeO.none _)
      | (with_reducible refine LeO.ite ?_ ?_)
      | (with_reducible refine LeO.bind ?_ (fun _ => ?_))
      | exact ih0 _ _ _
      | exact ih1 _ _ _ _
      | exact ih2 _ _ _ _ _
      | exact coins_Extend.mono _ _ _
      | exact coins_Fails.mono _ _
      | exact coins_Greedy.mono _ _ _
      | exact pomadelaw05_alive.mono _
      | exact pomaderef05_IsSystem.mono _ _
      | exact LeO.none _
      | refine LeO.ite ?_ ?_
      | refine LeO.bind ?_ (fun _ => ?_)
    · intro y0 y1 y2 y3 y4
      unfold pomadelaw05_CoinsOne.l0
      repeat' first
      | (with_reducible exact ih0 _ _ _)
      | (with_reducible exact ih1 _ _ _ _)
      | (with_reducible exact ih2 _ _ _ _ _)
      | (with_reducible exact coins_Extend.mono _ _ _)
      | (with_reducible exact coins_Fails.mono _ _)
      | (with_reducible exact coins_Greedy.mono _ _ _)
      | (with_reducible exact pomadelaw05_alive.mono _)
      | (with_reducible exact pomaderef05_IsSystem.mono _ _)
      | (with_reducible exact LeO.refl _)
      | (with_reducible exact LeO.none _)
      | (with_reducible refine LeO.ite ?_ ?_)
      | (with_reducible refine LeO.bind ?_ (fun _ => ?_))
      | exact ih0 _ _ _
      | exact ih1 _ _ _ _
      | exact ih2 _ _ _ _ _
      | exact coins_Extend.mono _ _ _
      | exact coins_Fails.mono _ _
      | exact coins_Greedy.mono _ _ _
      | exact pomadelaw05_alive.mono _
      | exact pomaderef05_IsSystem.mono _ _
      | exact LeO.none _
      | refine LeO.ite ?_ ?_
      | refine LeO.bind ?_ (fun _ => ?_)
theorem pomadelaw05_CoinsOne.mono : ∀ a0 a1 k, LeO (pomadelaw05_CoinsOne.f k a0 a1) (pomadelaw05_CoinsOne.f (k + 1) a0 a1) := by
  intro a0 a1 k
  obtain ⟨ih0, ih1, ih2⟩ := pomadelaw05_CoinsOne.mono_l k
  unfold pomadelaw05_CoinsOne.f
  repeat' first
      | (with_reducible exact ih0 _ _ _)
      | (with_reducible exact ih1 _ _ _ _)
      | (with_reducible exact ih2 _ _ _ _ _)
      | (with_reducible exact coins_Extend.mono _ _ _)
      | (with_reducible exact coins_Fails.mono _ _)
      | (with_reducible exact coins_Greedy.mono _ _ _)
      | (with_reducible exact pomadelaw05_alive.mono _)
      | (with_reducible exact pomaderef05_IsSystem.mono _ _)
      | (with_reducible exact LeO.refl _)
      | (with_reducible exact LeO.none _)
      | (with_reducible refine LeO.ite ?_ ?_)
      | (with_reducible refine LeO.bind ?_ (fun _ => ?_))
      | exact ih0 _ _ _
      | exact ih1 _ _ _ _
      | exact ih2 _ _ _ _ _
      | exact coins_Extend.mono _ _ _
      | exact coins_Fails.mono _ _
      | exact coins_Greedy.mono _ _ _
      | exact pomadelaw05_alive.mono _
      | exact pomaderef05_IsSystem.mono _ _
      | exact LeO.none _
      | refine LeO.ite ?_ ?_
      | refine LeO.bind ?_ (fun _ => ?_)
set_option maxHeartbeats 8000000 in
set_option maxRecDepth 100000 in
theorem pomadelaw05_CoinsOne.calls (k : Nat) (A0 : Option Addr) (c0 : Nat) (l0 : List Int) (a1 : Int) (r : Bool) (w : World) (hr0 : Kd.C (Kd.int .i64) w A0 l0.length l0) (hc0 : l0.length ≤ c0) (h : pomadelaw05_CoinsOne.f k l0 a1 = some r) :
    Calls Try.prog 10 #[.slice A0 l0.length c0, .int .u16 a1] w fun e w' => e = .returned (.bool r) ∧ Below w.heap.size w w' := by
  have HR0 := Aside0.mk hr0
  have HC0 := Aside0.mk hc0
  clear hr0 hc0
  have HB := Aside0.mk (Below.refl w.heap.size w)
  have H : (if (l0.length : Int) ≥ 15 then (pomadelaw05_CoinsOne.j0 k l0 a1 true) else ((pomaderef05_IsSystem.f k l0).bind fun t414 => (if t414 = true then (if 0 ≤ (wrap64 ((l0.length : Int) - 1)) then (if (wrap64 ((l0.length : Int) - 1)) < (l0.length : Int) then (pomadelaw05_CoinsOne.j0 k l0 a1 (decide ((rd l0 (wrap64 ((l0.length : Int) - 1))) ≥ 5000))) else (none)) else (none)) else (pomadelaw05_CoinsOne.j0 k l0 a1 true)))) = some r := h
  clear h
  have HC3 := Aside0.mk H
  clear H
  go_enter Try.func10, Try.ntmps10
  go_upto_region 1 with (fail)
  go_cut [32] (fun v32 wc => ∃ (kq : Nat) (x32_2 : Bool), v32 = .bool x32_2 ∧ Aside0 (pomadelaw05_CoinsOne.j0 kq l0 a1 x32_2 = some r) ∧ Aside0 (kq ≤ k) ∧ Aside0 (Below w.heap.size w wc))
  case first =>
    have H := HC3.out
    clear HC3
    by_cases c4 : (l0.length : Int) ≥ 15
    · rw [if_pos c4] at H
      have c4b0 : decide (15 ≤ (l0.length : Int)) = true := decide_eq_true c4
      have c4b1 : decide (15 ≤ l0.length) = true := decide_eq_true (by omega)
      clear c4
      (first | rw [c4b0] | (simp only [i64_w, i32_w]; rw [c4b0]) | skip)
      have H' := Aside0.mk H
      clear H
      go_wp2
      go_meet
      case rel => exact ⟨_, (true), (by first | rfl | (simp; done) | (simp [*]; done)), H', ⟨by first | omega | exact Nat.le_refl _⟩, ⟨by repeat (first | (with_reducible first | exact HB.out | apply below_alloc | apply pw_below_drewN | apply below_drew1) | exact HB.out)⟩⟩
    · rw [if_neg c4] at H
      have c4b0 : decide (15 ≤ (l0.length : Int)) = false := decide_eq_false c4
      have c4b1 : decide (15 ≤ l0.length) = false := decide_eq_false (by omega)
      clear c4
      (first | rw [c4b0] | (simp only [i64_w, i32_w]; rw [c4b0]) | skip)
      replace H := Option.bind_eq_some_iff.mp H
      obtain ⟨t414, A50, H⟩ := H
      replace H : (if t414 = true then (if 0 ≤ (wrap64 ((l0.length : Int) - 1)) then (if (wrap64 ((l0.length : Int) - 1)) < (l0.length : Int) then (pomadelaw05_CoinsOne.j0 k l0 a1 (decide ((rd l0 (wrap64 ((l0.length : Int) - 1))) ≥ 5000))) else (none)) else (none)) else (pomadelaw05_CoinsOne.j0 k l0 a1 true)) = some r := H
      have A5 := Aside0.mk A50
      clear A50
      by_cases c6 : t414 = true
      · subst c6
        have H1 : (if 0 ≤ (wrap64 ((l0.length : Int) - 1)) then (if (wrap64 ((l0.length : Int) - 1)) < (l0.length : Int) then (pomadelaw05_CoinsOne.j0 k l0 a1 (decide ((rd l0 (wrap64 ((l0.length : Int) - 1))) ≥ 5000))) else (none)) else (none)) = some r := by rw [if_pos rfl] at H; exact H
        clear H
        have H := H1
        clear H1
        obtain ⟨ji7, hji7⟩ : ∃ j_ : Int, (wrap64 ((l0.length : Int) - 1)) = j_ := ⟨_, rfl⟩
        replace H : (if 0 ≤ (ji7) then (if (ji7) < (l0.length : Int) then (pomadelaw05_CoinsOne.j0 k l0 a1 (decide ((rd l0 (ji7)) ≥ 5000))) else (none)) else (none)) = some r := by first | (rw [hji7] at H; exact H) | (simp only [hji7] at H ⊢; exact H)
        (try rw [hji7] at A5)
        have hji7w : (IntKind.i64.wrap ((l0.length : Int) - 1)) = ji7 := (i64_w _).trans hji7
        by_cases c8 : 0 ≤ (ji7)
        · rw [if_pos c8] at H
          have c8b0 : decide (0 ≤ (ji7)) = true := decide_eq_true c8
          clear c8
          by_cases c9 : (ji7) < (l0.length : Int)
          · rw [if_pos c9] at H
            have c9b0 : decide ((ji7) < (l0.length : Int)) = true := decide_eq_true c9
            clear c9
            have H' := Aside0.mk H
            clear H
            go_wp2_with (first | (go_at_call 18; (with_reducible refine (pomaderef05_IsSystem.calls k _ _ l0 true _ ?side1 ?side2 A5.out).mono ?_); (case side1 => repeat (first | exact (Kd.C_below HR0.out HB.out) | (with_reducible refine Kd.C_alloc ?_ _) | (with_reducible refine Kd.C_drewN ?_ _) | (with_reducible refine Kd.C_drew ?_))); (case side2 => exact HC0.out); rintro e w' ⟨rfl, ⟨nd, rfl⟩⟩; have p415 : 0 ≤ ((ji7) : Int) := of_decide_eq_true (by first | (with_reducible assumption) | assumption); have q415 : (ji7) < (l0.length : Int) := of_decide_eq_true (by first | (with_reducible assumption) | assumption); obtain ⟨ad415, e415, hx415_0⟩ := Kd.at_int HR0.out (ji7) p415 q415; cases e415; replace hx415_0 := (HB.out.cell (World.block_lt_of_cell? w _ hx415_0)).trans hx415_0; replace p415 := eq_true p415; replace q415 := eq_true q415))
            go_meet
            case rel => exact ⟨_, (decide ((rd l0 (ji7)) ≥ 5000)), (by first | rfl | (simp; done) | (simp only [← hji7] <;> (first | rfl | simp)) | (simp [*]; done)), H', ⟨by first | omega | exact Nat.le_refl _⟩, ⟨by repeat (first | (with_reducible first | exact HB.out | apply below_alloc | apply pw_below_drewN | apply below_drew1) | exact HB.out)⟩⟩
          · rw [if_neg c9] at H
            exact absurd H (by simp)
        · rw [if_neg c8] at H
          exact absurd H (by simp)
      · replace c6 := Bool.eq_false_iff.mpr c6
        subst c6
        have H1 : (pomadelaw05_CoinsOne.j0 k l0 a1 true) = some r := by rw [if_neg (show ¬ (false = true) by decide)] at H; exact H
        clear H
        have H := H1
        clear H1
        have H' := Aside0.mk H
        clear H
        go_wp2_with (first | (go_at_call 18; (with_reducible refine (pomaderef05_IsSystem.calls k _ _ l0 false _ ?side1 ?side2 A5.out).mono ?_); (case side1 => repeat (first | exact (Kd.C_below HR0.out HB.out) | (with_reducible refine Kd.C_alloc ?_ _) | (with_reducible refine Kd.C_drewN ?_ _) | (with_reducible refine Kd.C_drew ?_))); (case side2 => exact HC0.out); rintro e w' ⟨rfl, ⟨nd, rfl⟩⟩))
        go_meet
        case rel => exact ⟨_, (true), (by first | rfl | (simp; done) | (simp [*]; done)), H', ⟨by first | omega | exact Nat.le_refl _⟩, ⟨by repeat (first | (with_reducible first | exact HB.out | apply below_alloc | apply pw_below_drewN | apply below_drew1) | exact HB.out)⟩⟩
  case rest =>
    clear HC3
    try clear c1
    try clear p2
    try clear c4
    try clear c4b0
    try clear c4b1
    try clear p4
    try clear q4
    try clear hx4
    try clear c6
    try clear p6
    try clear c8
    try clear c8b0
    try clear c9
    try clear c9b0
    try clear hx415_0
    try clear p415
    try clear q415
    obtain ⟨kq, x32_2, rfl, HA, HJ2, HB⟩ := hcut
    cases kq with
    | zero => exact absurd HA.out (by simp [pomadelaw05_CoinsOne.j0])
    | succ kj2 =>
      have H := HA.out
      clear HA
      simp only [pomadelaw05_CoinsOne.j0] at H
      by_cases c10 : x32_2 = true
      · subst c10
        have H1 : ((pomadelaw05_alive.f kj2).bind fun t416 => (some t416)) = some r := by rw [if_pos rfl] at H; exact H
        clear H
        have H := H1
        clear H1
        replace H := Option.bind_eq_some_iff.mp H
        obtain ⟨t416, A110, H⟩ := H
        replace H : (some t416) = some r := H
        have A11 := Aside0.mk A110
        clear A110
        obtain rfl := Option.some.inj H
        go_wp2_with (first | ((with_reducible refine gate_callee (f := 12) rfl ?_); refine goesL_ (some 33) rfl rfl Try.func12 (by kernel_rfl) rfl #[] rfl (by (try simp only [List.map_toArray, List.map_cons, List.map_nil]); first | done | rfl | (simp only [List.length_drop, List.length_take]; rfl)) ?_; (with_reducible refine (pomadelaw05_alive.calls kj2  t416 _ A11.out).mono ?_); rintro e w12 ⟨rfl, hb⟩; refine ⟨_, rfl, ?_⟩; have n0_ := Aside0.mk (below_step (by repeat (first | (with_reducible first | exact HB.out | apply below_alloc | apply pw_below_drewN | apply below_drew1) | exact HB.out)) hb); clear HB; have HB := n0_; clear n0_; (try clear hb); (try clear hb2); (try clear hk); (try clear hi)))
        go_ret
        exact ⟨by first | rfl | (simp [errW_none, errW_some] <;> rfl) | (simp [*, errW_none, errW_some] <;> rfl), by repeat (first | (with_reducible first | exact HB.out | apply below_alloc | apply pw_below_drewN | apply below_drew1) | exact HB.out)⟩
      · replace c10 := Bool.eq_false_iff.mpr c10
        subst c10
        have H1 : (if 0 ≤ (wrap64 ((l0.length : Int) - 1)) then (if (wrap64 ((l0.length : Int) - 1)) < (l0.length : Int) then (if (wrap64 (5000 - (rd l0 (wrap64 ((l0.length : Int) - 1))))) = 0 then (none) else ((coins_Fails.f kj2 l0).bind fun bt418 => (if bt418.2 = 10 then (if (rd l0 (wrap64 ((l0.length : Int) - 1))) = 0 then (none) else ((coins_Greedy.f kj2 l0 (wrap64 ((wrap64 ((wrap64 (Int.tdiv (wrap64 ((wrap64 ((wrap64 ((wrap64 ((rd l0 (wrap64 ((l0.length : Int) - 1))) + 1)) + (Int.tmod (wrap64 (a1)) (wrap64 (5000 - (rd l0 (wrap64 ((l0.length : Int) - 1)))))))) + (rd l0 (wrap64 ((l0.length : Int) - 1))))) - 1)) (rd l0 (wrap64 ((l0.length : Int) - 1))))) * (rd l0 (wrap64 ((l0.length : Int) - 1))))) - (wrap64 ((wrap64 ((rd l0 (wrap64 ((l0.length : Int) - 1))) + 1)) + (Int.tmod (wrap64 (a1)) (wrap64 (5000 - (rd l0 (wrap64 ((l0.length : Int) - 1))))))))))).bind fun bt421 => ((coins_Extend.f kj2 l0 (wrap64 ((wrap64 ((rd l0 (wrap64 ((l0.length : Int) - 1))) + 1)) + (Int.tmod (wrap64 (a1)) (wrap64 (5000 - (rd l0 (wrap64 ((l0.length : Int) - 1))))))))).bind fun bt425 => (if bt421.2 = 0 then (pomadelaw05_CoinsOne.j1 kj2 (wrap64 (Int.tdiv (wrap64 ((wrap64 ((wrap64 ((wrap64 ((rd l0 (wrap64 ((l0.length : Int) - 1))) + 1)) + (Int.tmod (wrap64 (a1)) (wrap64 (5000 - (rd l0 (wrap64 ((l0.length : Int) - 1)))))))) + (rd l0 (wrap64 ((l0.length : Int) - 1))))) - 1)) (rd l0 (wrap64 ((l0.length : Int) - 1))))) bt421.1 bt425.1 (bt425.2 != 0)) else (pomadelaw05_CoinsOne.j1 kj2 (wrap64 (Int.tdiv (wrap64 ((wrap64 ((wrap64 ((wrap64 ((rd l0 (wrap64 ((l0.length : Int) - 1))) + 1)) + (Int.tmod (wrap64 (a1)) (wrap64 (5000 - (rd l0 (wrap64 ((l0.length : Int) - 1)))))))) + (rd l0 (wrap64 ((l0.length : Int) - 1))))) - 1)) (rd l0 (wrap64 ((l0.length : Int) - 1))))) bt421.1 bt425.1 true))))) else (if bt418.2 = 0 then ((pomadelaw05_alive.f kj2).bind fun t420 => (some t420)) else (some false))))) else (none)) else (none)) = some r := by rw [if_neg (show ¬ (false = true) by decide)] at H; exact H
        clear H
        have H := H1
        clear H1
        obtain ⟨ji13, hji13⟩ : ∃ j_ : Int, (wrap64 ((l0.length : Int) - 1)) = j_ := ⟨_, rfl⟩
        replace H : (if 0 ≤ (ji13) then (if (ji13) < (l0.length : Int) then (if (wrap64 (5000 - (rd l0 (ji13)))) = 0 then (none) else ((coins_Fails.f kj2 l0).bind fun bt418 => (if bt418.2 = 10 then (if (rd l0 (ji13)) = 0 then (none) else ((coins_Greedy.f kj2 l0 (wrap64 ((wrap64 ((wrap64 (Int.tdiv (wrap64 ((wrap64 ((wrap64 ((wrap64 ((rd l0 (ji13)) + 1)) + (Int.tmod (wrap64 (a1)) (wrap64 (5000 - (rd l0 (ji13))))))) + (rd l0 (ji13)))) - 1)) (rd l0 (ji13)))) * (rd l0 (ji13)))) - (wrap64 ((wrap64 ((rd l0 (ji13)) + 1)) + (Int.tmod (wrap64 (a1)) (wrap64 (5000 - (rd l0 (ji13)))))))))).bind fun bt421 => ((coins_Extend.f kj2 l0 (wrap64 ((wrap64 ((rd l0 (ji13)) + 1)) + (Int.tmod (wrap64 (a1)) (wrap64 (5000 - (rd l0 (ji13)))))))).bind fun bt425 => (if bt421.2 = 0 then (pomadelaw05_CoinsOne.j1 kj2 (wrap64 (Int.tdiv (wrap64 ((wrap64 ((wrap64 ((wrap64 ((rd l0 (ji13)) + 1)) + (Int.tmod (wrap64 (a1)) (wrap64 (5000 - (rd l0 (ji13))))))) + (rd l0 (ji13)))) - 1)) (rd l0 (ji13)))) bt421.1 bt425.1 (bt425.2 != 0)) else (pomadelaw05_CoinsOne.j1 kj2 (wrap64 (Int.tdiv (wrap64 ((wrap64 ((wrap64 ((wrap64 ((rd l0 (ji13)) + 1)) + (Int.tmod (wrap64 (a1)) (wrap64 (5000 - (rd l0 (ji13))))))) + (rd l0 (ji13)))) - 1)) (rd l0 (ji13)))) bt421.1 bt425.1 true))))) else (if bt418.2 = 0 then ((pomadelaw05_alive.f kj2).bind fun t420 => (some t420)) else (some false))))) else (none)) else (none)) = some r := by first | (rw [hji13] at H; exact H) | (simp only [hji13] at H ⊢; exact H)
        have hji13w : (IntKind.i64.wrap ((l0.length : Int) - 1)) = ji13 := (i64_w _).trans hji13
        by_cases c14 : 0 ≤ (ji13)
        · rw [if_pos c14] at H
          have c14b0 : decide (0 ≤ (ji13)) = true := decide_eq_true c14
          clear c14
          by_cases c15 : (ji13) < (l0.length : Int)
          · rw [if_pos c15] at H
            have c15b0 : decide ((ji13) < (l0.length : Int)) = true := decide_eq_true c15
            clear c15
            by_cases c16 : (wrap64 (5000 - (rd l0 (ji13)))) = 0
            · rw [if_pos c16] at H
              exact absurd H (by simp)
            · rw [if_neg c16] at H
              have c16b0 : ((wrap64 (5000 - (rd l0 (ji13)))) == 0) = false := beq_eq_false_iff_ne.mpr c16
              have c16b1 : ((wrap64 (5000 - (rd l0 (ji13)))) != 0) = true := bne_iff_ne.mpr c16
              replace H := Option.bind_eq_some_iff.mp H
              obtain ⟨⟨t418, t419⟩, A170, H⟩ := H
              replace H : (if t419 = 10 then (if (rd l0 (ji13)) = 0 then (none) else ((coins_Greedy.f kj2 l0 (wrap64 ((wrap64 ((wrap64 (Int.tdiv (wrap64 ((wrap64 ((wrap64 ((wrap64 ((rd l0 (ji13)) + 1)) + (Int.tmod (wrap64 (a1)) (wrap64 (5000 - (rd l0 (ji13))))))) + (rd l0 (ji13)))) - 1)) (rd l0 (ji13)))) * (rd l0 (ji13)))) - (wrap64 ((wrap64 ((rd l0 (ji13)) + 1)) + (Int.tmod (wrap64 (a1)) (wrap64 (5000 - (rd l0 (ji13)))))))))).bind fun bt421 => ((coins_Extend.f kj2 l0 (wrap64 ((wrap64 ((rd l0 (ji13)) + 1)) + (Int.tmod (wrap64 (a1)) (wrap64 (5000 - (rd l0 (ji13)))))))).bind fun bt425 => (if bt421.2 = 0 then (pomadelaw05_CoinsOne.j1 kj2 (wrap64 (Int.tdiv (wrap64 ((wrap64 ((wrap64 ((wrap64 ((rd l0 (ji13)) + 1)) + (Int.tmod (wrap64 (a1)) (wrap64 (5000 - (rd l0 (ji13))))))) + (rd l0 (ji13)))) - 1)) (rd l0 (ji13)))) bt421.1 bt425.1 (bt425.2 != 0)) else (pomadelaw05_CoinsOne.j1 kj2 (wrap64 (Int.tdiv (wrap64 ((wrap64 ((wrap64 ((wrap64 ((rd l0 (ji13)) + 1)) + (Int.tmod (wrap64 (a1)) (wrap64 (5000 - (rd l0 (ji13))))))) + (rd l0 (ji13)))) - 1)) (rd l0 (ji13)))) bt421.1 bt425.1 true))))) else (if t419 = 0 then ((pomadelaw05_alive.f kj2).bind fun t420 => (some t420)) else (some false))) = some r := H
              have A17 := Aside0.mk A170
              clear A170
              by_cases c18 : t419 = 10
              · rw [if_pos c18] at H
                have c18b0 : (t419 == 10) = true := beq_iff_eq.mpr c18
                have c18b1 : (t419 != 10) = false := bne_eq_false_iff_eq.mpr c18
                clear c18
                by_cases c19 : (rd l0 (ji13)) = 0
                · rw [if_pos c19] at H
                  exact absurd H (by simp)
                · rw [if_neg c19] at H
                  have c19b0 : ((rd l0 (ji13)) == 0) = false := beq_eq_false_iff_ne.mpr c19
                  have c19b1 : ((rd l0 (ji13)) != 0) = true := bne_iff_ne.mpr c19
                  replace H := Option.bind_eq_some_iff.mp H
                  obtain ⟨⟨t421, t422⟩, A200, H⟩ := H
                  replace H : ((coins_Extend.f kj2 l0 (wrap64 ((wrap64 ((rd l0 (ji13)) + 1)) + (Int.tmod (wrap64 (a1)) (wrap64 (5000 - (rd l0 (ji13)))))))).bind fun bt425 => (if t422 = 0 then (pomadelaw05_CoinsOne.j1 kj2 (wrap64 (Int.tdiv (wrap64 ((wrap64 ((wrap64 ((wrap64 ((rd l0 (ji13)) + 1)) + (Int.tmod (wrap64 (a1)) (wrap64 (5000 - (rd l0 (ji13))))))) + (rd l0 (ji13)))) - 1)) (rd l0 (ji13)))) t421 bt425.1 (bt425.2 != 0)) else (pomadelaw05_CoinsOne.j1 kj2 (wrap64 (Int.tdiv (wrap64 ((wrap64 ((wrap64 ((wrap64 ((rd l0 (ji13)) + 1)) + (Int.tmod (wrap64 (a1)) (wrap64 (5000 - (rd l0 (ji13))))))) + (rd l0 (ji13)))) - 1)) (rd l0 (ji13)))) t421 bt425.1 true))) = some r := H
                  have A20 := Aside0.mk A200
                  clear A200
                  replace H := Option.bind_eq_some_iff.mp H
                  obtain ⟨⟨t425, t426⟩, A210, H⟩ := H
                  replace H : (if t422 = 0 then (pomadelaw05_CoinsOne.j1 kj2 (wrap64 (Int.tdiv (wrap64 ((wrap64 ((wrap64 ((wrap64 ((rd l0 (ji13)) + 1)) + (Int.tmod (wrap64 (a1)) (wrap64 (5000 - (rd l0 (ji13))))))) + (rd l0 (ji13)))) - 1)) (rd l0 (ji13)))) t421 t425 (t426 != 0)) else (pomadelaw05_CoinsOne.j1 kj2 (wrap64 (Int.tdiv (wrap64 ((wrap64 ((wrap64 ((wrap64 ((rd l0 (ji13)) + 1)) + (Int.tmod (wrap64 (a1)) (wrap64 (5000 - (rd l0 (ji13))))))) + (rd l0 (ji13)))) - 1)) (rd l0 (ji13)))) t421 t425 true)) = some r := H
                  have A21 := Aside0.mk A210
                  clear A210
                  have HC22 := Aside0.mk H
                  clear H
                  have p417 : 0 ≤ ((ji13) : Int) := of_decide_eq_true (by first | (with_reducible assumption) | assumption)
                  have q417 : (ji13) < (l0.length : Int) := of_decide_eq_true (by first | (with_reducible assumption) | assumption)
                  obtain ⟨ad417, e417, hx417_0⟩ := Kd.at_int HR0.out (ji13) p417 q417
                  cases e417
                  replace hx417_0 := (HB.out.cell (World.block_lt_of_cell? w _ hx417_0)).trans hx417_0
                  replace p417 := eq_true p417
                  replace q417 := eq_true q417
                  go_upto_region 11 with (first | ((with_reducible refine gate_callee (f := 19) rfl ?_); refine goesL_ (some 50) rfl rfl Try.func19 (by kernel_rfl) rfl #[.slice (some ad417) l0.length c0] rfl (by (try simp only [List.map_toArray, List.map_cons, List.map_nil]); first | done | rfl | (simp only [List.length_drop, List.length_take]; rfl)) ?_; (with_reducible refine (coins_Fails.calls kj2 _ _ l0 t418 t419 _ ?side1 ?side2 A17.out).mono ?_); (case side1 => repeat (first | exact (Kd.C_below HR0.out HB.out) | (with_reducible refine Kd.C_alloc ?_ _) | (with_reducible refine Kd.C_drewN ?_ _) | (with_reducible refine Kd.C_drew ?_))); (case side2 => exact HC0.out); rintro e w23 ⟨rfl, hb⟩; refine ⟨_, rfl, ?_⟩; have n0_ := Aside0.mk (below_step (by repeat (first | (with_reducible first | exact HB.out | apply below_alloc | apply pw_below_drewN | apply below_drew1) | exact HB.out)) hb); clear HB; have HB := n0_; clear n0_; (try clear hb); (try clear hb2); (try clear hk); (try clear hi)) | ((with_reducible refine gate_callee (f := 13) rfl ?_); refine goesL_ (some 73) rfl rfl Try.func13 (by kernel_rfl) rfl #[.slice (some ad417) l0.length c0, .int .i64 (wrap64 ((wrap64 ((wrap64 (Int.tdiv (wrap64 ((wrap64 ((wrap64 ((wrap64 ((rd l0 (ji13)) + 1)) + (Int.tmod (wrap64 (a1)) (wrap64 (5000 - (rd l0 (ji13))))))) + (rd l0 (ji13)))) - 1)) (rd l0 (ji13)))) * (rd l0 (ji13)))) - (wrap64 ((wrap64 ((rd l0 (ji13)) + 1)) + (Int.tmod (wrap64 (a1)) (wrap64 (5000 - (rd l0 (ji13)))))))))] rfl (by (try simp only [List.map_toArray, List.map_cons, List.map_nil]); first | done | (simp only [hji13]; rfl) | rfl | (simp only [List.length_drop, List.length_take]; rfl)) ?_; (with_reducible refine (coins_Greedy.calls kj2 _ _ l0 (wrap64 ((wrap64 ((wrap64 (Int.tdiv (wrap64 ((wrap64 ((wrap64 ((wrap64 ((rd l0 (ji13)) + 1)) + (Int.tmod (wrap64 (a1)) (wrap64 (5000 - (rd l0 (ji13))))))) + (rd l0 (ji13)))) - 1)) (rd l0 (ji13)))) * (rd l0 (ji13)))) - (wrap64 ((wrap64 ((rd l0 (ji13)) + 1)) + (Int.tmod (wrap64 (a1)) (wrap64 (5000 - (rd l0 (ji13))))))))) t421 t422 _ ?side1 ?side2 A20.out).mono ?_); (case side1 => repeat (first | exact (Kd.C_below HR0.out HB.out) | (with_reducible refine Kd.C_alloc ?_ _) | (with_reducible refine Kd.C_drewN ?_ _) | (with_reducible refine Kd.C_drew ?_))); (case side2 => exact HC0.out); rintro e w24 ⟨v423, rfl, ho0, hb⟩; refine ⟨_, rfl, ?_⟩; have n0_ := Aside0.mk (Kd.R_lower ho0 (below_size (by repeat (first | (with_reducible first | exact HB.out | apply below_alloc | apply pw_below_drewN | apply below_drew1) | exact HB.out)))); have n1_ := Aside0.mk (below_step (by repeat (first | (with_reducible first | exact HB.out | apply below_alloc | apply pw_below_drewN | apply below_drew1) | exact HB.out)) hb); clear HB; have HO424 := n0_; have HB := n1_; clear n0_ n1_; (try clear hb); (try clear hb2); (try clear hk); (try clear hi); (try clear ho0)) | ((with_reducible refine gate_callee (f := 24) rfl ?_); refine goesL_ (some 79) rfl rfl Try.func24 (by kernel_rfl) rfl #[.slice (some ad417) l0.length c0, .int .i64 (wrap64 ((wrap64 ((rd l0 (ji13)) + 1)) + (Int.tmod (wrap64 (a1)) (wrap64 (5000 - (rd l0 (ji13)))))))] rfl (by (try simp only [List.map_toArray, List.map_cons, List.map_nil]); first | done | (simp only [hji13]; rfl) | rfl | (simp only [List.length_drop, List.length_take]; rfl)) ?_; (with_reducible refine (coins_Extend.calls kj2 _ _ l0 (wrap64 ((wrap64 ((rd l0 (ji13)) + 1)) + (Int.tmod (wrap64 (a1)) (wrap64 (5000 - (rd l0 (ji13))))))) t425 t426 _ ?side1 ?side2 A21.out).mono ?_); (case side1 => repeat (first | exact (Kd.C_below HR0.out HB.out) | (with_reducible refine Kd.C_alloc ?_ _) | (with_reducible refine Kd.C_drewN ?_ _) | (with_reducible refine Kd.C_drew ?_))); (case side2 => exact HC0.out); rintro e w25 ⟨rfl, hb⟩; refine ⟨_, rfl, ?_⟩; have n0_ := Aside0.mk (Kd.R_below (by (with_reducible repeat (first | apply Kd.R_alloc | apply Kd.R_drewN | apply Kd.R_drew)); exact HO424.out) hb); have n1_ := Aside0.mk (below_step (by repeat (first | (with_reducible first | exact HB.out | apply below_alloc | apply pw_below_drewN | apply below_drew1) | exact HB.out)) hb); clear HO424; clear HB; have HO424 := n0_; have HB := n1_; clear n0_ n1_; (try clear hb); (try clear hb2); (try clear hk); (try clear hi)))
                  (try simp only [Act.put, List.setIfInBounds_toArray, List.set_cons_zero, List.set_cons_succ])
                  go_cut [87] (fun v87 wc => ∃ (kq : Nat) (x87_21 : Bool), v87 = .bool x87_21 ∧ Aside0 (pomadelaw05_CoinsOne.j1 kq (wrap64 (Int.tdiv (wrap64 ((wrap64 ((wrap64 ((wrap64 ((rd l0 (ji13)) + 1)) + (Int.tmod (wrap64 (a1)) (wrap64 (5000 - (rd l0 (ji13))))))) + (rd l0 (ji13)))) - 1)) (rd l0 (ji13)))) t421 t425 x87_21 = some r) ∧ Aside0 (kq ≤ kj2) ∧ Aside0 (Kd.R (Kd.int .i64) 3 wc w.heap.size (fun _ => True) v423 t421) ∧ Aside0 (Below w.heap.size w wc))
                  case first =>
                    have H := HC22.out
                    clear HC22
                    by_cases c26 : t422 = 0
                    · rw [if_pos c26] at H
                      have c26b0 : (t422 == 0) = true := beq_iff_eq.mpr c26
                      have c26b1 : (t422 != 0) = false := bne_eq_false_iff_eq.mpr c26
                      clear c26
                      (first | rw [c26b0] | (simp only [i64_w, i32_w]; rw [c26b0]) | skip)
                      have H' := Aside0.mk H
                      clear H
                      go_wp2
                      go_meet
                      case rel => exact ⟨_, ((t426 != 0)), (by first | rfl | (simp; done) | (simp [*]; done)), H', ⟨by have := HJ2.out; first | omega | exact Nat.le_refl _⟩, ⟨by (with_reducible repeat (first | apply Kd.R_alloc | apply Kd.R_drewN | apply Kd.R_drew)); exact HO424.out⟩, ⟨by repeat (first | (with_reducible first | exact HB.out | apply below_alloc | apply pw_below_drewN | apply below_drew1) | exact HB.out)⟩⟩
                    · rw [if_neg c26] at H
                      have c26b0 : (t422 == 0) = false := beq_eq_false_iff_ne.mpr c26
                      have c26b1 : (t422 != 0) = true := bne_iff_ne.mpr c26
                      (first | rw [c26b0] | (simp only [i64_w, i32_w]; rw [c26b0]) | skip)
                      have H' := Aside0.mk H
                      clear H
                      go_wp2
                      go_meet
                      case rel => exact ⟨_, (true), (by first | rfl | (simp; done) | (simp [*]; done)), H', ⟨by have := HJ2.out; first | omega | exact Nat.le_refl _⟩, ⟨by (with_reducible repeat (first | apply Kd.R_alloc | apply Kd.R_drewN | apply Kd.R_drew)); exact HO424.out⟩, ⟨by repeat (first | (with_reducible first | exact HB.out | apply below_alloc | apply pw_below_drewN | apply below_drew1) | exact HB.out)⟩⟩
                  case rest =>
                    clear HC22
                    try clear c1
                    try clear c2
                    try clear p2
                    try clear c4
                    try clear c4b0
                    try clear c4b1
                    try clear p4
                    try clear q4
                    try clear hx4
                    try clear c6
                    try clear p6
                    try clear c8
                    try clear c8b0
                    try clear c9
                    try clear c9b0
                    try clear c10
                    try clear c12
                    try clear c13
                    try clear c14
                    try clear c14b0
                    try clear c15
                    try clear c15b0
                    try clear c16
                    try clear c16b0
                    try clear c16b1
                    try clear c18
                    try clear c18b0
                    try clear c18b1
                    try clear c19
                    try clear c19b0
                    try clear c19b1
                    try clear c24
                    try clear c26
                    try clear c26b0
                    try clear c26b1
                    try clear hx415_0
                    try clear hx417_0
                    try clear p2
                    try clear p4
                    try clear p415
                    try clear p417
                    try clear p6
                    try clear q4
                    try clear q415
                    try clear q417
                    obtain ⟨kq, x87_21, rfl, HA, HJ21, HO_10, HB⟩ := hcut
                    cases kq with
                    | zero => exact absurd HA.out (by simp [pomadelaw05_CoinsOne.j1])
                    | succ kj21 =>
                      have H := HA.out
                      clear HA
                      simp only [pomadelaw05_CoinsOne.j1] at H
                      by_cases c27 : x87_21 = true
                      · subst c27
                        have H1 : (some false) = some r := by rw [if_pos rfl] at H; exact H
                        clear H
                        have H := H1
                        clear H1
                        obtain rfl := Option.some.inj H
                        go_wp2
                        go_ret
                        exact ⟨by first | rfl | (simp [errW_none, errW_some] <;> rfl) | (simp only [← hji13]; first | rfl | (simp [errW_none, errW_some] <;> rfl)) | (simp [*, errW_none, errW_some] <;> rfl), by repeat (first | (with_reducible first | exact HB.out | apply below_alloc | apply pw_below_drewN | apply below_drew1) | exact HB.out)⟩
                      · replace c27 := Bool.eq_false_iff.mpr c27
                        subst c27
                        have H1 : (pomadelaw05_CoinsOne.l0 kj21 (wrap64 (Int.tdiv (wrap64 ((wrap64 ((wrap64 ((wrap64 ((rd l0 (ji13)) + 1)) + (Int.tmod (wrap64 (a1)) (wrap64 (5000 - (rd l0 (ji13))))))) + (rd l0 (ji13)))) - 1)) (rd l0 (ji13)))) t421 t425 0 0) = some r := by rw [if_neg (show ¬ (false = true) by decide)] at H; exact H
                        clear H
                        have H := H1
                        clear H1
                        have H' := Aside0.mk H
                        clear H
                        go_wp2
                        go_loopg [14, 15] kj21 (fun kq v14 v15 w' => ∃ (x14_3 : Int) (x15_3 : Int), v14 = .int .i64 x14_3 ∧ v15 = .int .i64 x15_3 ∧ Aside0 (pomadelaw05_CoinsOne.l0 kq (wrap64 (Int.tdiv (wrap64 ((wrap64 ((wrap64 ((wrap64 ((rd l0 (ji13)) + 1)) + (Int.tmod (wrap64 (a1)) (wrap64 (5000 - (rd l0 (ji13))))))) + (rd l0 (ji13)))) - 1)) (rd l0 (ji13)))) t421 t425 x14_3 x15_3 = some r) ∧ Aside0 (kq ≤ kj21) ∧ Aside0 (Kd.R (Kd.int .i64) 3 w' w.heap.size (fun _ => True) v423 t421) ∧ Aside0 (Below w.heap.size w w'))
                        case atStart => exact ⟨(0), (0), (by first | rfl | (simp; done) | (simp [*]; done)), (by first | rfl | (simp; done) | (simp [*]; done)), H', ⟨Nat.le_refl _⟩, ⟨by (with_reducible repeat (first | apply Kd.R_alloc | apply Kd.R_drewN | apply Kd.R_drew)); exact HO_10.out⟩, ⟨by repeat (first | (with_reducible first | exact HB.out | apply below_alloc | apply pw_below_drewN | apply below_drew1) | exact HB.out)⟩⟩
                        case round =>
                          clear H'
                          try clear c1
                          try clear c2
                          try clear p2
                          try clear c4
                          try clear c4b0
                          try clear c4b1
                          try clear p4
                          try clear q4
                          try clear hx4
                          try clear c6
                          try clear p6
                          try clear c8
                          try clear c8b0
                          try clear c9
                          try clear c9b0
                          try clear c10
                          try clear c12
                          try clear c13
                          try clear c14
                          try clear c14b0
                          try clear c15
                          try clear c15b0
                          try clear c16
                          try clear c16b0
                          try clear c16b1
                          try clear c18
                          try clear c18b0
                          try clear c18b1
                          try clear c19
                          try clear c19b0
                          try clear c19b1
                          try clear c24
                          try clear c26
                          try clear c26b0
                          try clear c26b1
                          try clear c27
                          try clear hx415_0
                          try clear hx417_0
                          try clear p2
                          try clear p4
                          try clear p415
                          try clear p417
                          try clear p6
                          try clear q4
                          try clear q415
                          try clear q417
                          obtain ⟨x14_3, x15_3, rfl, rfl, HA, HK3, HO_10, HB⟩ := hrel
                          cases gk with
                          | zero => exact absurd HA.out (by simp [pomadelaw05_CoinsOne.l0])
                          | succ k3 =>
                            have H := HA.out
                            clear HA
                            simp only [pomadelaw05_CoinsOne.l0] at H
                            by_cases c28 : x15_3 < (t421.length : Int)
                            · rw [if_pos c28] at H
                              have c28b0 : decide (x15_3 < (t421.length : Int)) = true := decide_eq_true c28
                              clear c28
                              by_cases c29 : 0 ≤ x15_3
                              · rw [if_pos c29] at H
                                have c29b0 : decide (0 ≤ x15_3) = true := decide_eq_true c29
                                clear c29
                                have H' := Aside0.mk H
                                clear H
                                obtain ⟨Ao30, co30, eo30⟩ := Kd.R_slice HO_10.out
                                subst eo30
                                have p427 : 0 ≤ (x15_3 : Int) := of_decide_eq_true (by first | (with_reducible assumption) | assumption)
                                have q427 : x15_3 < (t421.length : Int) := of_decide_eq_true (by first | (with_reducible assumption) | assumption)
                                obtain ⟨ad427, e427, hx427_0⟩ := Kd.at_int (Kd.R_reads' HO_10.out).2.2 x15_3 p427 q427
                                cases e427
                                replace p427 := eq_true p427
                                replace q427 := eq_true q427
                                go_wp2
                                go_roundg k3
                                case measure => have := HJ2.out; have := HJ21.out; have := HK3.out; omega
                                case rel => exact ⟨(wrap64 (x14_3 + (rd t421 x15_3))), (wrap64 (x15_3 + 1)), (by first | rfl | (simp; done) | (simp [*]; done)), (by first | rfl | (simp; done) | (simp [*]; done)), H', ⟨by have := HJ2.out; have := HJ21.out; have := HK3.out; omega⟩, ⟨by (with_reducible repeat (first | apply Kd.R_alloc | apply Kd.R_drewN | apply Kd.R_drew)); exact HO_10.out⟩, ⟨by repeat (first | (with_reducible first | exact HB.out | apply below_alloc | apply pw_below_drewN | apply below_drew1) | exact HB.out)⟩⟩
                              · rw [if_neg c29] at H
                                exact absurd H (by simp)
                            · rw [if_neg c28] at H
                              have c28b0 : decide (x15_3 < (t421.length : Int)) = false := decide_eq_false c28
                              clear c28
                              by_cases c31 : (t425 == (decide (x14_3 < (wrap64 (Int.tdiv (wrap64 ((wrap64 ((wrap64 ((wrap64 ((rd l0 (ji13)) + 1)) + (Int.tmod (wrap64 (a1)) (wrap64 (5000 - (rd l0 (ji13))))))) + (rd l0 (ji13)))) - 1)) (rd l0 (ji13))))))) = true
                              · rw [if_pos c31] at H
                                have c31b0 : (t425 == (decide (x14_3 < (wrap64 (Int.tdiv (wrap64 ((wrap64 ((wrap64 ((wrap64 ((rd l0 (ji13)) + 1)) + (Int.tmod (wrap64 (a1)) (wrap64 (5000 - (rd l0 (ji13))))))) + (rd l0 (ji13)))) - 1)) (rd l0 (ji13))))))) = true := c31
                                (try (have c31b1 : decide (t425 = (decide (x14_3 < (wrap64 (Int.tdiv (wrap64 ((wrap64 ((wrap64 ((wrap64 ((rd l0 (ji13)) + 1)) + (Int.tmod (wrap64 (a1)) (wrap64 (5000 - (rd l0 (ji13))))))) + (rd l0 (ji13)))) - 1)) (rd l0 (ji13))))))) = true := by simpa using c31))
                                (try (have c31b2 : (t425 == (decide (x14_3 < (wrap64 (Int.tdiv (wrap64 ((wrap64 ((wrap64 ((wrap64 ((rd l0 (ji13)) + 1)) + (Int.tmod (wrap64 (a1)) (wrap64 (5000 - (rd l0 (ji13))))))) + (rd l0 (ji13)))) - 1)) (rd l0 (ji13))))))) = true := by simpa using c31))
                                clear c31
                                replace H := Option.bind_eq_some_iff.mp H
                                obtain ⟨t428, A320, H⟩ := H
                                replace H : (some t428) = some r := H
                                have A32 := Aside0.mk A320
                                clear A320
                                obtain rfl := Option.some.inj H
                                obtain ⟨Ao33, co33, eo33⟩ := Kd.R_slice HO_10.out
                                subst eo33
                                go_wp2_with (first | (go_at_call 12; (with_reducible refine (pomadelaw05_alive.calls k3  t428 _ A32.out).mono ?_); rintro e w34 ⟨rfl, hb⟩; have n0_ := Aside0.mk (Kd.R_below (by (with_reducible repeat (first | apply Kd.R_alloc | apply Kd.R_drewN | apply Kd.R_drew)); exact HO_10.out) hb); have n1_ := Aside0.mk (below_step (by repeat (first | (with_reducible first | exact HB.out | apply below_alloc | apply pw_below_drewN | apply below_drew1) | exact HB.out)) hb); clear HO_10; clear HB; have HO_10 := n0_; have HB := n1_; clear n0_ n1_; (try clear hb); (try clear hb2); (try clear hk); (try clear hi)))
                                go_ret
                                exact ⟨by first | rfl | (simp [errW_none, errW_some] <;> rfl) | (simp only [← hji13]; first | rfl | (simp [errW_none, errW_some] <;> rfl)) | (simp [*, errW_none, errW_some] <;> rfl), by repeat (first | (with_reducible first | exact HB.out | apply below_alloc | apply pw_below_drewN | apply below_drew1) | exact HB.out)⟩
                              · rw [if_neg c31] at H
                                have c31b0 : (t425 == (decide (x14_3 < (wrap64 (Int.tdiv (wrap64 ((wrap64 ((wrap64 ((wrap64 ((rd l0 (ji13)) + 1)) + (Int.tmod (wrap64 (a1)) (wrap64 (5000 - (rd l0 (ji13))))))) + (rd l0 (ji13)))) - 1)) (rd l0 (ji13))))))) = false := by simpa using c31
                                (try (have c31b1 : decide (t425 = (decide (x14_3 < (wrap64 (Int.tdiv (wrap64 ((wrap64 ((wrap64 ((wrap64 ((rd l0 (ji13)) + 1)) + (Int.tmod (wrap64 (a1)) (wrap64 (5000 - (rd l0 (ji13))))))) + (rd l0 (ji13)))) - 1)) (rd l0 (ji13))))))) = false := by simpa using c31))
                                (try (have c31b2 : (t425 == (decide (x14_3 < (wrap64 (Int.tdiv (wrap64 ((wrap64 ((wrap64 ((wrap64 ((rd l0 (ji13)) + 1)) + (Int.tmod (wrap64 (a1)) (wrap64 (5000 - (rd l0 (ji13))))))) + (rd l0 (ji13)))) - 1)) (rd l0 (ji13))))))) = false := by simpa using c31))
                                (try (have c31b3 : ¬ (t425 = (decide (x14_3 < (wrap64 (Int.tdiv (wrap64 ((wrap64 ((wrap64 ((wrap64 ((rd l0 (ji13)) + 1)) + (Int.tmod (wrap64 (a1)) (wrap64 (5000 - (rd l0 (ji13))))))) + (rd l0 (ji13)))) - 1)) (rd l0 (ji13))))))) := by simpa using c31))
                                clear c31
                                obtain rfl := Option.some.inj H
                                obtain ⟨Ao35, co35, eo35⟩ := Kd.R_slice HO_10.out
                                subst eo35
                                go_wp2
                                go_ret
                                exact ⟨by first | rfl | (simp [errW_none, errW_some] <;> rfl) | (simp only [← hji13]; first | rfl | (simp [errW_none, errW_some] <;> rfl)) | (simp [*, errW_none, errW_some] <;> rfl), by repeat (first | (with_reducible first | exact HB.out | apply below_alloc | apply pw_below_drewN | apply below_drew1) | exact HB.out)⟩
              · rw [if_neg c18] at H
                have c18b0 : (t419 == 10) = false := beq_eq_false_iff_ne.mpr c18
                have c18b1 : (t419 != 10) = true := bne_iff_ne.mpr c18
                by_cases c36 : t419 = 0
                · rw [if_pos c36] at H
                  have c36b0 : (t419 == 0) = true := beq_iff_eq.mpr c36
                  have c36b1 : (t419 != 0) = false := bne_eq_false_iff_eq.mpr c36
                  clear c36
                  replace H := Option.bind_eq_some_iff.mp H
                  obtain ⟨t420, A370, H⟩ := H
                  replace H : (some t420) = some r := H
                  have A37 := Aside0.mk A370
                  clear A370
                  obtain rfl := Option.some.inj H
                  have p417 : 0 ≤ ((ji13) : Int) := of_decide_eq_true (by first | (with_reducible assumption) | assumption)
                  have q417 : (ji13) < (l0.length : Int) := of_decide_eq_true (by first | (with_reducible assumption) | assumption)
                  obtain ⟨ad417, e417, hx417_0⟩ := Kd.at_int HR0.out (ji13) p417 q417
                  cases e417
                  replace hx417_0 := (HB.out.cell (World.block_lt_of_cell? w _ hx417_0)).trans hx417_0
                  replace p417 := eq_true p417
                  replace q417 := eq_true q417
                  go_wp2_with (first | ((with_reducible refine gate_callee (f := 19) rfl ?_); refine goesL_ (some 50) rfl rfl Try.func19 (by kernel_rfl) rfl #[.slice (some ad417) l0.length c0] rfl (by (try simp only [List.map_toArray, List.map_cons, List.map_nil]); first | done | rfl | (simp only [List.length_drop, List.length_take]; rfl)) ?_; (with_reducible refine (coins_Fails.calls kj2 _ _ l0 t418 t419 _ ?side1 ?side2 A17.out).mono ?_); (case side1 => repeat (first | exact (Kd.C_below HR0.out HB.out) | (with_reducible refine Kd.C_alloc ?_ _) | (with_reducible refine Kd.C_drewN ?_ _) | (with_reducible refine Kd.C_drew ?_))); (case side2 => exact HC0.out); rintro e w38 ⟨rfl, hb⟩; refine ⟨_, rfl, ?_⟩; have n0_ := Aside0.mk (below_step (by repeat (first | (with_reducible first | exact HB.out | apply below_alloc | apply pw_below_drewN | apply below_drew1) | exact HB.out)) hb); clear HB; have HB := n0_; clear n0_; (try clear hb); (try clear hb2); (try clear hk); (try clear hi)) | (go_at_call 12; (with_reducible refine (pomadelaw05_alive.calls kj2  t420 _ A37.out).mono ?_); rintro e w39 ⟨rfl, hb⟩; have n0_ := Aside0.mk (below_step (by repeat (first | (with_reducible first | exact HB.out | apply below_alloc | apply pw_below_drewN | apply below_drew1) | exact HB.out)) hb); clear HB; have HB := n0_; clear n0_; (try clear hb); (try clear hb2); (try clear hk); (try clear hi)))
                  go_ret
                  exact ⟨by first | rfl | (simp [errW_none, errW_some] <;> rfl) | (simp only [← hji13]; first | rfl | (simp [errW_none, errW_some] <;> rfl)) | (simp [*, errW_none, errW_some] <;> rfl), by repeat (first | (with_reducible first | exact HB.out | apply below_alloc | apply pw_below_drewN | apply below_drew1) | exact HB.out)⟩
                · rw [if_neg c36] at H
                  have c36b0 : (t419 == 0) = false := beq_eq_false_iff_ne.mpr c36
                  have c36b1 : (t419 != 0) = true := bne_iff_ne.mpr c36
                  obtain rfl := Option.some.inj H
                  have p417 : 0 ≤ ((ji13) : Int) := of_decide_eq_true (by first | (with_reducible assumption) | assumption)
                  have q417 : (ji13) < (l0.length : Int) := of_decide_eq_true (by first | (with_reducible assumption) | assumption)
                  obtain ⟨ad417, e417, hx417_0⟩ := Kd.at_int HR0.out (ji13) p417 q417
                  cases e417
                  replace hx417_0 := (HB.out.cell (World.block_lt_of_cell? w _ hx417_0)).trans hx417_0
                  replace p417 := eq_true p417
                  replace q417 := eq_true q417
                  go_wp2_with (first | ((with_reducible refine gate_callee (f := 19) rfl ?_); refine goesL_ (some 50) rfl rfl Try.func19 (by kernel_rfl) rfl #[.slice (some ad417) l0.length c0] rfl (by (try simp only [List.map_toArray, List.map_cons, List.map_nil]); first | done | rfl | (simp only [List.length_drop, List.length_take]; rfl)) ?_; (with_reducible refine (coins_Fails.calls kj2 _ _ l0 t418 t419 _ ?side1 ?side2 A17.out).mono ?_); (case side1 => repeat (first | exact (Kd.C_below HR0.out HB.out) | (with_reducible refine Kd.C_alloc ?_ _) | (with_reducible refine Kd.C_drewN ?_ _) | (with_reducible refine Kd.C_drew ?_))); (case side2 => exact HC0.out); rintro e w40 ⟨rfl, hb⟩; refine ⟨_, rfl, ?_⟩; have n0_ := Aside0.mk (below_step (by repeat (first | (with_reducible first | exact HB.out | apply below_alloc | apply pw_below_drewN | apply below_drew1) | exact HB.out)) hb); clear HB; have HB := n0_; clear n0_; (try clear hb); (try clear hb2); (try clear hk); (try clear hi)))
                  go_ret
                  exact ⟨by first | rfl | (simp [errW_none, errW_some] <;> rfl) | (simp only [← hji13]; first | rfl | (simp [errW_none, errW_some] <;> rfl)) | (simp [*, errW_none, errW_some] <;> rfl), by repeat (first | (with_reducible first | exact HB.out | apply below_alloc | apply pw_below_drewN | apply below_drew1) | exact HB.out)⟩
          · rw [if_neg c15] at H
            exact absurd H (by simp)
        · rw [if_neg c14] at H
          exact absurd H (by simp)

/-- THE ONE PURE STATEMENT of pomadelaw05_CoinsOne: yours. -/
def pomadelaw05_CoinsOne.Pure : Prop := ∀ (l0 : List Int) (a1 : Int), l0.length ≤ maxLen → l0.length * 8 ≤ 140737488351232 → (∀ x ∈ l0, (Lit.int .i64 x).wf = true) → (Lit.int .u16 a1).wf = true → ∃ k, pomadelaw05_CoinsOne.f k l0 a1 = some true
theorem pomadelaw05_CoinsOne.walk (P : pomadelaw05_CoinsOne.Pure) (a0 : Option Addr) (len0 cap0 : Nat) (z0 : List Int) (a1 : Int) (w : World) (w0 : (a0 = none ∧ len0 = 0 ∧ cap0 = 0 ∧ z0 = []) ∨ ∃ x, a0 = some x ∧ len0 ≤ cap0 ∧ cap0 ≤ maxLen ∧ z0.length = cap0 ∧ (∀ i, i < z0.length → w.cell? (x.add i) = some (.int .i64 (z0.getD i 0))) ∧ ∀ n ∈ z0, (Lit.int .i64 n).wf = true) (y0 : len0 * 8 ≤ 140737488351232) (w1 : (Lit.int .u16 a1).wf = true) :
    Calls Try.prog 10 #[.slice a0 len0 cap0, .int .u16 a1] w fun e w' => e = .returned (.bool true) ∧ Below w.heap.size w w' := by
  obtain ⟨l0, rfl, hr0, hm0, hw0, hc0⟩ := ReadsInt.ofRowC w0
  obtain ⟨k, h⟩ := P l0 a1 hm0 y0 hw0 w1
  refine (pomadelaw05_CoinsOne.calls k _ _ l0 a1 true w (Kd.C_of_reads (d := (0 : Int)) (h1 := fun _ => rfl) hr0) hc0 h).mono ?_
  rintro e w' ⟨rfl, hd⟩
  exact ⟨rfl, hd⟩

end Go.Proofs.Ytgbalmjnjpfopaa.PC
