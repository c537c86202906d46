-- Printed by a program of this session (mkprint.sh, over the kit's print.py), with own proofs for the functions that the print does not take.
import Derived.Test.YtgbalmjnjpfopaaPCx0
import Derived.Test.YtgbalmjnjpfopaaPCx1
import Derived.Test.YtgbalmjnjpfopaaPCx3
import Derived.Test.YtgbalmjnjpfopaaPCx4
import Derived.Test.YtgbalmjnjpfopaaPCx6
namespace Go.Proofs.Ytgbalmjnjpfopaa.PC
open Go.RowKit Go.Proofs.YtgbalmjnjpfopaaW.PrintWords Go.Proofs.YtgbalmjnjpfopaaW.PrintLast Go.Proofs.YtgbalmjnjpfopaaW.PrintMore
attribute [local go_sem] max2_int min2_int max_two min_two max_three min_three max_four min_four   -- for this text's walks alone
set_option linter.unusedVariables false
set_option linter.unusedSimpArgs false

/-! ### pomadelaw05_CoinsPearson: function 5 -/
mutual
def pomadelaw05_CoinsPearson.j0 : Nat → List Int → Bool → Option (Bool)
  | 0, _, _ => none
  | k + 1, x0, x16 => if x16 = true then ((pomadelaw05_alive.f k).bind fun t282 => (some t282)) else ((coins_Fails.f k x0).bind fun bt283 => (if bt283.2 = 0 then ((coins_Greedy.f k x0 bt283.1).bind fun bt286 => ((coins_Best.f k x0 bt283.1).bind fun bt290 => (if bt286.2 = 0 then (if bt290.2 = 0 then (if (bt286.1.length : Int) = (x0.length : Int) then (pomadelaw05_CoinsPearson.j1 k x0 bt286.1 bt290.1 ((bt290.1.length : Int) != (x0.length : Int))) else (pomadelaw05_CoinsPearson.j1 k x0 bt286.1 bt290.1 true)) else (pomadelaw05_CoinsPearson.j1 k x0 bt286.1 bt290.1 true)) else (pomadelaw05_CoinsPearson.j1 k x0 bt286.1 bt290.1 true)))) else (if bt283.2 = 10 then (if bt283.1 = 0 then ((pomadelaw05_alive.f k).bind fun t285 => (some t285)) else (some false)) else (some false))))
def pomadelaw05_CoinsPearson.j1 : Nat → List Int → List Int → List Int → Bool → Option (Bool)
  | 0, _, _, _, _ => none
  | k + 1, x0, x5, x6, x65 => if x65 = true then (some false) else (pomadelaw05_CoinsPearson.l0 k x0 x5 x6 0)
def pomadelaw05_CoinsPearson.l0 : Nat → List Int → List Int → List Int → Int → Option (Bool)
  | 0, _, _, _, _ => none
  | k + 1, x0, x5, x6, x8 => if x8 < (x0.length : Int) then (if 0 ≤ x8 then (if x8 < (x5.length : Int) then (if (rd x5 x8) > 0 then (if x8 < (x6.length : Int) then (if (rd x6 x8) > 0 then (some false) else (pomadelaw05_CoinsPearson.l0 k x0 x5 x6 (wrap64 (x8 + 1)))) else (none)) else (pomadelaw05_CoinsPearson.l0 k x0 x5 x6 (wrap64 (x8 + 1)))) else (none)) else (none)) else ((pomadelaw05_alive.f k).bind fun t296 => (some t296))
end
def pomadelaw05_CoinsPearson.f (k : Nat) (l0 : List Int) : Option (Bool) := if (l0.length : Int) > 40 then (pomadelaw05_CoinsPearson.j0 k l0 true) else ((pomaderef05_IsSystem.f k l0).bind fun t281 => (pomadelaw05_CoinsPearson.j0 k l0 (!t281)))
theorem pomadelaw05_CoinsPearson.mono_l : ∀ k, (∀ y0 y1, LeO (pomadelaw05_CoinsPearson.j0 k y0 y1) (pomadelaw05_CoinsPearson.j0 (k + 1) y0 y1)) ∧ (∀ y0 y1 y2 y3, LeO (pomadelaw05_CoinsPearson.j1 k y0 y1 y2 y3) (pomadelaw05_CoinsPearson.j1 (k + 1) y0 y1 y2 y3)) ∧ (∀ y0 y1 y2 y3, LeO (pomadelaw05_CoinsPearson.l0 k y0 y1 y2 y3) (pomadelaw05_CoinsPearson.l0 (k + 1) y0 y1 y2 y3))
  | 0 => ⟨fun _ _ r h => by simp [pomadelaw05_CoinsPearson.j0] at h, fun _ _ _ _ r h => by simp [pomadelaw05_CoinsPearson.j1] at h, fun _ _ _ _ r h => by simp [pomadelaw05_CoinsPearson.l0] at h⟩
  | k + 1 => by
    obtain ⟨ih0, ih1, ih2⟩ := pomadelaw05_CoinsPearson.mono_l k
    refine ⟨?_, ?_, ?_⟩
    · intro y0 y1
      unfold pomadelaw05_CoinsPearson.j0
      repeat' first
      | (with_reducible exact ih0 _ _)
      | (with_reducible exact ih1 _ _ _ _)
      | (with_reducible exact ih2 _ _ _ _)
      | (with_reducible exact coins_Best.mono _ _ _)
      | (with_reducible exact coins_Fails.mono _ _)
      | (with_reducible exact coins_Greedy.mono _ _ _)
      | (with_reducible exact pomadelaw05_alive.mono _)
      | (with_reducible exact pomaderef05_IsSystem.mono _ _)
      | (with_reducible exact LeO.refl _)
      | (with_reducible exact LeO.none _)
      | (with_reducible refine LeO.ite ?_ ?_)
      | (with_reducible refine LeO.bind ?_ (fun _ => ?_))
      | exact ih0 _ _
      | exact ih1 _ _ _ _
      | exact ih2 _ _ _ _
      | exact coins_Best.mono _ _ _
      | exact coins_Fails.mono _ _
      | exact coins_Greedy.mono _ _ _
      | exact pomadelaw05_alive.mono _
      | exact pomaderef05_IsSystem.mono _ _
      | exact LeO.none _
      | refine LeO.ite ?_ ?_
      | refine LeO.bind ?_ (fun _ => ?_)
    · intro y0 y1 y2 y3
      unfold pomadelaw05_CoinsPearson.j1
      repeat' first
      | (with_reducible exact ih0 _ _)
      | (with_reducible exact ih1 _ _ _ _)
      | (with_reducible exact ih2 _ _ _ _)
      | (with_reducible exact coins_Best.mono _ _ _)
      | (with_reducible exact coins_Fails.mono _ _)
      | (with_reducible exact coins_Greedy.mono _ _ _)
      | (with_reducible exact pomadelaw05_alive.mono _)
      | (with_reducible exact pomaderef05_IsSystem.mono _ _)
      | (with_reducible exact LeO.refl _)
      | (with_reducible exact LeO.none _)
      | (with_reducible refine LeO.ite ?_ ?_)
      | (with_reducible refine LeO.bind ?_ (fun _ => ?_))
      | exact ih0 _ _
      | exact ih1 _ _ _ _
      | exact ih2 _ _ _ _
      | exact coins_Best.mono _ _ _
      | exact coins_Fails.mono _ _
      | exact coins_Greedy.mono _ _ _
      | exact pomadelaw05_alive.mono _
      | exact pomaderef05_IsSystem.mono _ _
      | exact LeO.none _
      | refine LeO.ite ?_ ?_
      | refine LeO.bind ?_ (fun _ => ?_)
    · intro y0 y1 y2 y3
      unfold pomadelaw05_CoinsPearson.l0
      repeat' first
      | (with_reducible exact ih0 _ _)
      | (with_reducible exact ih1 _ _ _ _)
      | (with_reducible exact ih2 _ _ _ _)
      | (with_reducible exact coins_Best.mono _ _ _)
      | (with_reducible exact coins_Fails.mono _ _)
      | (with_reducible exact coins_Greedy.mono _ _ _)
      | (with_reducible exact pomadelaw05_alive.mono _)
      | (with_reducible exact pomaderef05_IsSystem.mono _ _)
      | (with_reducible exact LeO.refl _)
      | (with_reducible exact LeO.none _)
      | (with_reducible refine LeO.ite ?_ ?_)
      | (with_reducible refine LeO.bind ?_ (fun _ => ?_))
      | exact ih0 _ _
      | exact ih1 _ _ _ _
      | exact ih2 _ _ _ _
      | exact coins_Best.mono _ _ _
      | exact coins_Fails.mono _ _
      | exact coins_Greedy.mono _ _ _
      | exact pomadelaw05_alive.mono _
      | exact pomaderef05_IsSystem.mono _ _
      | exact LeO.none _
      | refine LeO.ite ?_ ?_
      | refine LeO.bind ?_ (fun _ => ?_)
theorem pomadelaw05_CoinsPearson.mono : ∀ a0 k, LeO (pomadelaw05_CoinsPearson.f k a0) (pomadelaw05_CoinsPearson.f (k + 1) a0) := by
  intro a0 k
  obtain ⟨ih0, ih1, ih2⟩ := pomadelaw05_CoinsPearson.mono_l k
  unfold pomadelaw05_CoinsPearson.f
  repeat' first
      | (with_reducible exact ih0 _ _)
      | (with_reducible exact ih1 _ _ _ _)
      | (with_reducible exact ih2 _ _ _ _)
      | (with_reducible exact coins_Best.mono _ _ _)
      | (with_reducible exact coins_Fails.mono _ _)
      | (with_reducible exact coins_Greedy.mono _ _ _)
      | (with_reducible exact pomadelaw05_alive.mono _)
      | (with_reducible exact pomaderef05_IsSystem.mono _ _)
      | (with_reducible exact LeO.refl _)
      | (with_reducible exact LeO.none _)
      | (with_reducible refine LeO.ite ?_ ?_)
      | (with_reducible refine LeO.bind ?_ (fun _ => ?_))
      | exact ih0 _ _
      | exact ih1 _ _ _ _
      | exact ih2 _ _ _ _
      | exact coins_Best.mono _ _ _
      | exact coins_Fails.mono _ _
      | exact coins_Greedy.mono _ _ _
      | exact pomadelaw05_alive.mono _
      | exact pomaderef05_IsSystem.mono _ _
      | exact LeO.none _
      | refine LeO.ite ?_ ?_
      | refine LeO.bind ?_ (fun _ => ?_)
set_option maxHeartbeats 8000000 in
set_option maxRecDepth 100000 in
theorem pomadelaw05_CoinsPearson.calls (k : Nat) (A0 : Option Addr) (c0 : Nat) (l0 : List Int) (r : Bool) (w : World) (hr0 : Kd.C (Kd.int .i64) w A0 l0.length l0) (hc0 : l0.length ≤ c0) (h : pomadelaw05_CoinsPearson.f k l0 = some r) :
    Calls Try.prog 5 #[.slice A0 l0.length c0] w fun e w' => e = .returned (.bool r) ∧ Below w.heap.size w w' := by
  have HR0 := Aside0.mk hr0
  have HC0 := Aside0.mk hc0
  clear hr0 hc0
  have HB := Aside0.mk (Below.refl w.heap.size w)
  have H : (if (l0.length : Int) > 40 then (pomadelaw05_CoinsPearson.j0 k l0 true) else ((pomaderef05_IsSystem.f k l0).bind fun t281 => (pomadelaw05_CoinsPearson.j0 k l0 (!t281)))) = some r := h
  clear h
  have HC2 := Aside0.mk H
  clear H
  go_enter Try.func5, Try.ntmps5
  go_upto_region 1 with (fail)
  go_cut [16] (fun v16 wc => ∃ (kq : Nat) (x16_1 : Bool), v16 = .bool x16_1 ∧ Aside0 (pomadelaw05_CoinsPearson.j0 kq l0 x16_1 = some r) ∧ Aside0 (kq ≤ k) ∧ Aside0 (Below w.heap.size w wc))
  case first =>
    have H := HC2.out
    clear HC2
    by_cases c3 : (l0.length : Int) > 40
    · rw [if_pos c3] at H
      have c3b0 : decide (40 < (l0.length : Int)) = true := decide_eq_true c3
      have c3b1 : decide (40 < l0.length) = true := decide_eq_true (by omega)
      clear c3
      (first | rw [c3b0] | (simp only [i64_w, i32_w]; rw [c3b0]) | skip)
      have H' := Aside0.mk H
      clear H
      go_wp2
      go_meet
      case rel => exact ⟨_, (true), (by first | rfl | (simp; done) | (simp [*]; done)), H', ⟨by first | omega | exact Nat.le_refl _⟩, ⟨by repeat (first | (with_reducible first | exact HB.out | apply below_alloc | apply pw_below_drewN | apply below_drew1) | exact HB.out)⟩⟩
    · rw [if_neg c3] at H
      have c3b0 : decide (40 < (l0.length : Int)) = false := decide_eq_false c3
      have c3b1 : decide (40 < l0.length) = false := decide_eq_false (by omega)
      clear c3
      (first | rw [c3b0] | (simp only [i64_w, i32_w]; rw [c3b0]) | skip)
      replace H := Option.bind_eq_some_iff.mp H
      obtain ⟨t281, A40, H⟩ := H
      replace H : (pomadelaw05_CoinsPearson.j0 k l0 (!t281)) = some r := H
      have A4 := Aside0.mk A40
      clear A40
      have H' := Aside0.mk H
      clear H
      go_wp2_with (first | (go_at_call 18; (with_reducible refine (pomaderef05_IsSystem.calls k _ _ l0 t281 _ ?side1 ?side2 A4.out).mono ?_); (case side1 => repeat (first | exact (Kd.C_below HR0.out HB.out) | (with_reducible refine Kd.C_alloc ?_ _) | (with_reducible refine Kd.C_drewN ?_ _) | (with_reducible refine Kd.C_drew ?_))); (case side2 => exact HC0.out); rintro e w' ⟨rfl, ⟨nd, rfl⟩⟩))
      go_meet
      case rel => exact ⟨_, (!t281), (by first | rfl | (simp; done) | (simp [*]; done)), H', ⟨by first | omega | exact Nat.le_refl _⟩, ⟨by repeat (first | (with_reducible first | exact HB.out | apply below_alloc | apply pw_below_drewN | apply below_drew1) | exact HB.out)⟩⟩
  case rest =>
    clear HC2
    try clear p2
    try clear c3
    try clear c3b0
    try clear c3b1
    obtain ⟨kq, x16_1, rfl, HA, HJ1, HB⟩ := hcut
    cases kq with
    | zero => exact absurd HA.out (by simp [pomadelaw05_CoinsPearson.j0])
    | succ kj1 =>
      have H := HA.out
      clear HA
      simp only [pomadelaw05_CoinsPearson.j0] at H
      by_cases c5 : x16_1 = true
      · subst c5
        have H1 : ((pomadelaw05_alive.f kj1).bind fun t282 => (some t282)) = some r := by rw [if_pos rfl] at H; exact H
        clear H
        have H := H1
        clear H1
        replace H := Option.bind_eq_some_iff.mp H
        obtain ⟨t282, A60, H⟩ := H
        replace H : (some t282) = some r := H
        have A6 := Aside0.mk A60
        clear A60
        obtain rfl := Option.some.inj H
        go_wp2_with (first | ((with_reducible refine gate_callee (f := 12) rfl ?_); refine goesL_ (some 17) rfl rfl Try.func12 (by kernel_rfl) rfl #[] rfl (by (try simp only [List.map_toArray, List.map_cons, List.map_nil]); first | done | rfl | (simp only [List.length_drop, List.length_take]; rfl)) ?_; (with_reducible refine (pomadelaw05_alive.calls kj1  t282 _ A6.out).mono ?_); rintro e w7 ⟨rfl, hb⟩; refine ⟨_, rfl, ?_⟩; have n0_ := Aside0.mk (below_step (by repeat (first | (with_reducible first | exact HB.out | apply below_alloc | apply pw_below_drewN | apply below_drew1) | exact HB.out)) hb); clear HB; have HB := n0_; clear n0_; (try clear hb); (try clear hb2); (try clear hk); (try clear hi)))
        go_ret
        exact ⟨by first | rfl | (simp [errW_none, errW_some] <;> rfl) | (simp [*, errW_none, errW_some] <;> rfl), by repeat (first | (with_reducible first | exact HB.out | apply below_alloc | apply pw_below_drewN | apply below_drew1) | exact HB.out)⟩
      · replace c5 := Bool.eq_false_iff.mpr c5
        subst c5
        have H1 : ((coins_Fails.f kj1 l0).bind fun bt283 => (if bt283.2 = 0 then ((coins_Greedy.f kj1 l0 bt283.1).bind fun bt286 => ((coins_Best.f kj1 l0 bt283.1).bind fun bt290 => (if bt286.2 = 0 then (if bt290.2 = 0 then (if (bt286.1.length : Int) = (l0.length : Int) then (pomadelaw05_CoinsPearson.j1 kj1 l0 bt286.1 bt290.1 ((bt290.1.length : Int) != (l0.length : Int))) else (pomadelaw05_CoinsPearson.j1 kj1 l0 bt286.1 bt290.1 true)) else (pomadelaw05_CoinsPearson.j1 kj1 l0 bt286.1 bt290.1 true)) else (pomadelaw05_CoinsPearson.j1 kj1 l0 bt286.1 bt290.1 true)))) else (if bt283.2 = 10 then (if bt283.1 = 0 then ((pomadelaw05_alive.f kj1).bind fun t285 => (some t285)) else (some false)) else (some false)))) = some r := by rw [if_neg (show ¬ (false = true) by decide)] at H; exact H
        clear H
        have H := H1
        clear H1
        replace H := Option.bind_eq_some_iff.mp H
        obtain ⟨⟨t283, t284⟩, A80, H⟩ := H
        replace H : (if t284 = 0 then ((coins_Greedy.f kj1 l0 t283).bind fun bt286 => ((coins_Best.f kj1 l0 t283).bind fun bt290 => (if bt286.2 = 0 then (if bt290.2 = 0 then (if (bt286.1.length : Int) = (l0.length : Int) then (pomadelaw05_CoinsPearson.j1 kj1 l0 bt286.1 bt290.1 ((bt290.1.length : Int) != (l0.length : Int))) else (pomadelaw05_CoinsPearson.j1 kj1 l0 bt286.1 bt290.1 true)) else (pomadelaw05_CoinsPearson.j1 kj1 l0 bt286.1 bt290.1 true)) else (pomadelaw05_CoinsPearson.j1 kj1 l0 bt286.1 bt290.1 true)))) else (if t284 = 10 then (if t283 = 0 then ((pomadelaw05_alive.f kj1).bind fun t285 => (some t285)) else (some false)) else (some false))) = some r := H
        have A8 := Aside0.mk A80
        clear A80
        by_cases c9 : t284 = 0
        · rw [if_pos c9] at H
          have c9b0 : (t284 == 0) = true := beq_iff_eq.mpr c9
          have c9b1 : (t284 != 0) = false := bne_eq_false_iff_eq.mpr c9
          clear c9
          replace H := Option.bind_eq_some_iff.mp H
          obtain ⟨⟨t286, t287⟩, A100, H⟩ := H
          replace H : ((coins_Best.f kj1 l0 t283).bind fun bt290 => (if t287 = 0 then (if bt290.2 = 0 then (if (t286.length : Int) = (l0.length : Int) then (pomadelaw05_CoinsPearson.j1 kj1 l0 t286 bt290.1 ((bt290.1.length : Int) != (l0.length : Int))) else (pomadelaw05_CoinsPearson.j1 kj1 l0 t286 bt290.1 true)) else (pomadelaw05_CoinsPearson.j1 kj1 l0 t286 bt290.1 true)) else (pomadelaw05_CoinsPearson.j1 kj1 l0 t286 bt290.1 true))) = some r := H
          have A10 := Aside0.mk A100
          clear A100
          replace H := Option.bind_eq_some_iff.mp H
          obtain ⟨⟨t290, t291⟩, A110, H⟩ := H
          replace H : (if t287 = 0 then (if t291 = 0 then (if (t286.length : Int) = (l0.length : Int) then (pomadelaw05_CoinsPearson.j1 kj1 l0 t286 t290 ((t290.length : Int) != (l0.length : Int))) else (pomadelaw05_CoinsPearson.j1 kj1 l0 t286 t290 true)) else (pomadelaw05_CoinsPearson.j1 kj1 l0 t286 t290 true)) else (pomadelaw05_CoinsPearson.j1 kj1 l0 t286 t290 true)) = some r := H
          have A11 := Aside0.mk A110
          clear A110
          have HC12 := Aside0.mk H
          clear H
          go_upto_region 8 with (first | ((with_reducible refine gate_callee (f := 19) rfl ?_); refine goesL_ (some 20) rfl rfl Try.func19 (by kernel_rfl) rfl #[.slice A0 l0.length c0] rfl (by (try simp only [List.map_toArray, List.map_cons, List.map_nil]); first | done | rfl | (simp only [List.length_drop, List.length_take]; rfl)) ?_; (with_reducible refine (coins_Fails.calls kj1 _ _ l0 t283 t284 _ ?side1 ?side2 A8.out).mono ?_); (case side1 => repeat (first | exact (Kd.C_below HR0.out HB.out) | (with_reducible refine Kd.C_alloc ?_ _) | (with_reducible refine Kd.C_drewN ?_ _) | (with_reducible refine Kd.C_drew ?_))); (case side2 => exact HC0.out); rintro e w13 ⟨rfl, hb⟩; refine ⟨_, rfl, ?_⟩; have n0_ := Aside0.mk (below_step (by repeat (first | (with_reducible first | exact HB.out | apply below_alloc | apply pw_below_drewN | apply below_drew1) | exact HB.out)) hb); clear HB; have HB := n0_; clear n0_; (try clear hb); (try clear hb2); (try clear hk); (try clear hi)) | ((with_reducible refine gate_callee (f := 13) rfl ?_); refine goesL_ (some 37) rfl rfl Try.func13 (by kernel_rfl) rfl #[.slice A0 l0.length c0, .int .i64 t283] rfl (by (try simp only [List.map_toArray, List.map_cons, List.map_nil]); first | done | rfl | (simp only [List.length_drop, List.length_take]; rfl)) ?_; (with_reducible refine (coins_Greedy.calls kj1 _ _ l0 t283 t286 t287 _ ?side1 ?side2 A10.out).mono ?_); (case side1 => repeat (first | exact (Kd.C_below HR0.out HB.out) | (with_reducible refine Kd.C_alloc ?_ _) | (with_reducible refine Kd.C_drewN ?_ _) | (with_reducible refine Kd.C_drew ?_))); (case side2 => exact HC0.out); rintro e w14 ⟨v288, rfl, ho0, hb⟩; refine ⟨_, rfl, ?_⟩; have n0_ := Aside0.mk (Kd.R_lower ho0 (below_size (by repeat (first | (with_reducible first | exact HB.out | apply below_alloc | apply pw_below_drewN | apply below_drew1) | exact HB.out)))); have n1_ := Aside0.mk (below_step (by repeat (first | (with_reducible first | exact HB.out | apply below_alloc | apply pw_below_drewN | apply below_drew1) | exact HB.out)) hb); clear HB; have HO289 := n0_; have HB := n1_; clear n0_ n1_; (try clear hb); (try clear hb2); (try clear hk); (try clear hi); (try clear ho0)) | ((with_reducible refine gate_callee (f := 20) rfl ?_); refine goesL_ (some 43) rfl rfl Try.func20 (by kernel_rfl) rfl #[.slice A0 l0.length c0, .int .i64 t283] rfl (by (try simp only [List.map_toArray, List.map_cons, List.map_nil]); first | done | rfl | (simp only [List.length_drop, List.length_take]; rfl)) ?_; (with_reducible refine (coins_Best.calls kj1 _ _ l0 t283 t290 t291 _ ?side1 ?side2 A11.out).mono ?_); (case side1 => repeat (first | exact (Kd.C_below HR0.out HB.out) | (with_reducible refine Kd.C_alloc ?_ _) | (with_reducible refine Kd.C_drewN ?_ _) | (with_reducible refine Kd.C_drew ?_))); (case side2 => exact HC0.out); rintro e w15 ⟨v292, rfl, ho0, hb⟩; refine ⟨_, rfl, ?_⟩; have n0_ := Aside0.mk (Kd.R_elder' (by (with_reducible repeat (first | apply Kd.R_alloc | apply Kd.R_drewN | apply Kd.R_drew)); exact HO289.out) (Kd.R_base ho0) hb); have n1_ := Aside0.mk (Kd.R_lower (Kd.R_new' ho0 (Kd.R_lt (by (with_reducible repeat (first | apply Kd.R_alloc | apply Kd.R_drewN | apply Kd.R_drew)); exact HO289.out))) (below_size (by repeat (first | (with_reducible first | exact HB.out | apply below_alloc | apply pw_below_drewN | apply below_drew1) | exact HB.out)))); have n2_ := Aside0.mk (below_step (by repeat (first | (with_reducible first | exact HB.out | apply below_alloc | apply pw_below_drewN | apply below_drew1) | exact HB.out)) hb); clear HO289; clear HB; have HO289 := n0_; have HO293 := n1_; have HB := n2_; clear n0_ n1_ n2_; (try clear hb); (try clear hb2); (try clear hk); (try clear hi); (try clear ho0)))
          (try simp only [Act.put, List.setIfInBounds_toArray, List.set_cons_zero, List.set_cons_succ])
          go_cut [65] (fun v65 wc => ∃ (kq : Nat) (x65_11 : Bool), v65 = .bool x65_11 ∧ Aside0 (pomadelaw05_CoinsPearson.j1 kq l0 t286 t290 x65_11 = some r) ∧ Aside0 (kq ≤ kj1) ∧ Aside0 (Kd.R (Kd.int .i64) 3 wc w.heap.size (fun k_ => some k_ ≠ (v292 : Value).ownBlock) v288 t286) ∧ Aside0 (Kd.R (Kd.int .i64) 3 wc w.heap.size (fun k_ => some k_ ≠ (v288 : Value).ownBlock) v292 t290) ∧ Aside0 (Below w.heap.size w wc))
          case first =>
            have H := HC12.out
            clear HC12
            by_cases c16 : t287 = 0
            · rw [if_pos c16] at H
              have c16b0 : (t287 == 0) = true := beq_iff_eq.mpr c16
              have c16b1 : (t287 != 0) = false := bne_eq_false_iff_eq.mpr c16
              clear c16
              (first | rw [c16b0] | (simp only [i64_w, i32_w]; rw [c16b0]) | skip)
              by_cases c17 : t291 = 0
              · rw [if_pos c17] at H
                have c17b0 : (t291 == 0) = true := beq_iff_eq.mpr c17
                have c17b1 : (t291 != 0) = false := bne_eq_false_iff_eq.mpr c17
                clear c17
                by_cases c18 : (t286.length : Int) = (l0.length : Int)
                · rw [if_pos c18] at H
                  have c18b0 : ((t286.length : Int) == (l0.length : Int)) = true := beq_iff_eq.mpr c18
                  have c18b1 : ((t286.length : Int) != (l0.length : Int)) = false := bne_eq_false_iff_eq.mpr c18
                  have c18b2 : (t286.length == l0.length) = true := by first | simpa using c18 | (simp at c18 ⊢; omega)
                  clear c18
                  have H' := Aside0.mk H
                  clear H
                  obtain ⟨Ao19, co19, eo19⟩ := Kd.R_slice HO289.out
                  subst eo19
                  obtain ⟨Ao20, co20, eo20⟩ := Kd.R_slice HO293.out
                  subst eo20
                  go_wp2
                  go_meet
                  case rel => exact ⟨_, (((t290.length : Int) != (l0.length : Int))), (by first | rfl | (simp; done) | (simp [*]; done)), H', ⟨by have := HJ1.out; first | omega | exact Nat.le_refl _⟩, ⟨by (with_reducible repeat (first | apply Kd.R_alloc | apply Kd.R_drewN | apply Kd.R_drew)); exact Kd.R_mono HO289.out (fun _ hk => hk.2)⟩, ⟨by (with_reducible repeat (first | apply Kd.R_alloc | apply Kd.R_drewN | apply Kd.R_drew)); exact Kd.R_mono HO293.out (fun _ hk => hk.2)⟩, ⟨by repeat (first | (with_reducible first | exact HB.out | apply below_alloc | apply pw_below_drewN | apply below_drew1) | exact HB.out)⟩⟩
                · rw [if_neg c18] at H
                  have c18b0 : ((t286.length : Int) == (l0.length : Int)) = false := beq_eq_false_iff_ne.mpr c18
                  have c18b1 : ((t286.length : Int) != (l0.length : Int)) = true := bne_iff_ne.mpr c18
                  have c18b2 : (t286.length == l0.length) = false := by first | simpa using c18 | (simp at c18 ⊢; omega)
                  have H' := Aside0.mk H
                  clear H
                  obtain ⟨Ao21, co21, eo21⟩ := Kd.R_slice HO289.out
                  subst eo21
                  go_wp2
                  go_meet
                  case rel => exact ⟨_, (true), (by first | rfl | (simp; done) | (simp [*]; done)), H', ⟨by have := HJ1.out; first | omega | exact Nat.le_refl _⟩, ⟨by (with_reducible repeat (first | apply Kd.R_alloc | apply Kd.R_drewN | apply Kd.R_drew)); exact Kd.R_mono HO289.out (fun _ hk => hk.2)⟩, ⟨by (with_reducible repeat (first | apply Kd.R_alloc | apply Kd.R_drewN | apply Kd.R_drew)); exact Kd.R_mono HO293.out (fun _ hk => hk.2)⟩, ⟨by repeat (first | (with_reducible first | exact HB.out | apply below_alloc | apply pw_below_drewN | apply below_drew1) | exact HB.out)⟩⟩
              · rw [if_neg c17] at H
                have c17b0 : (t291 == 0) = false := beq_eq_false_iff_ne.mpr c17
                have c17b1 : (t291 != 0) = true := bne_iff_ne.mpr c17
                have H' := Aside0.mk H
                clear H
                go_wp2
                go_meet
                case rel => exact ⟨_, (true), (by first | rfl | (simp; done) | (simp [*]; done)), H', ⟨by have := HJ1.out; first | omega | exact Nat.le_refl _⟩, ⟨by (with_reducible repeat (first | apply Kd.R_alloc | apply Kd.R_drewN | apply Kd.R_drew)); exact Kd.R_mono HO289.out (fun _ hk => hk.2)⟩, ⟨by (with_reducible repeat (first | apply Kd.R_alloc | apply Kd.R_drewN | apply Kd.R_drew)); exact Kd.R_mono HO293.out (fun _ hk => hk.2)⟩, ⟨by repeat (first | (with_reducible first | exact HB.out | apply below_alloc | apply pw_below_drewN | apply below_drew1) | exact HB.out)⟩⟩
            · rw [if_neg c16] at H
              have c16b0 : (t287 == 0) = false := beq_eq_false_iff_ne.mpr c16
              have c16b1 : (t287 != 0) = true := bne_iff_ne.mpr c16
              (first | rw [c16b0] | (simp only [i64_w, i32_w]; rw [c16b0]) | skip)
              have H' := Aside0.mk H
              clear H
              go_wp2
              go_meet
              case rel => exact ⟨_, (true), (by first | rfl | (simp; done) | (simp [*]; done)), H', ⟨by have := HJ1.out; first | omega | exact Nat.le_refl _⟩, ⟨by (with_reducible repeat (first | apply Kd.R_alloc | apply Kd.R_drewN | apply Kd.R_drew)); exact Kd.R_mono HO289.out (fun _ hk => hk.2)⟩, ⟨by (with_reducible repeat (first | apply Kd.R_alloc | apply Kd.R_drewN | apply Kd.R_drew)); exact Kd.R_mono HO293.out (fun _ hk => hk.2)⟩, ⟨by repeat (first | (with_reducible first | exact HB.out | apply below_alloc | apply pw_below_drewN | apply below_drew1) | exact HB.out)⟩⟩
          case rest =>
            clear HC12
            try clear c1
            try clear c2
            try clear p2
            try clear c3
            try clear c3b0
            try clear c3b1
            try clear c5
            try clear c9
            try clear c9b0
            try clear c9b1
            try clear c12
            try clear c13
            try clear c16
            try clear c16b0
            try clear c16b1
            try clear c17
            try clear c17b0
            try clear c17b1
            try clear c18
            try clear c18b0
            try clear c18b1
            try clear c18b2
            try clear c19
            try clear c20
            try clear p2
            obtain ⟨kq, x65_11, rfl, HA, HJ11, HO_5, HO_6, HB⟩ := hcut
            cases kq with
            | zero => exact absurd HA.out (by simp [pomadelaw05_CoinsPearson.j1])
            | succ kj11 =>
              have H := HA.out
              clear HA
              simp only [pomadelaw05_CoinsPearson.j1] at H
              by_cases c22 : x65_11 = true
              · subst c22
                have H1 : (some false) = some r := by rw [if_pos rfl] at H; exact H
                clear H
                have H := H1
                clear H1
                obtain rfl := Option.some.inj H
                go_wp2
                go_ret
                exact ⟨by first | rfl | (simp [errW_none, errW_some] <;> rfl) | (simp [*, errW_none, errW_some] <;> rfl), by repeat (first | (with_reducible first | exact HB.out | apply below_alloc | apply pw_below_drewN | apply below_drew1) | exact HB.out)⟩
              · replace c22 := Bool.eq_false_iff.mpr c22
                subst c22
                have H1 : (pomadelaw05_CoinsPearson.l0 kj11 l0 t286 t290 0) = some r := by rw [if_neg (show ¬ (false = true) by decide)] at H; exact H
                clear H
                have H := H1
                clear H1
                have H' := Aside0.mk H
                clear H
                go_wp2
                go_loopg [8] kj11 (fun kq v8 w' => ∃ (x8_3 : Int), v8 = .int .i64 x8_3 ∧ Aside0 (pomadelaw05_CoinsPearson.l0 kq l0 t286 t290 x8_3 = some r) ∧ Aside0 (kq ≤ kj11) ∧ Aside0 (Kd.R (Kd.int .i64) 3 w' w.heap.size (fun k_ => some k_ ≠ (v292 : Value).ownBlock) v288 t286) ∧ Aside0 (Kd.R (Kd.int .i64) 3 w' w.heap.size (fun k_ => some k_ ≠ (v288 : Value).ownBlock) v292 t290) ∧ Aside0 (Below w.heap.size w w'))
                case atStart => exact ⟨(0), (by first | rfl | (simp; done) | (simp [*]; done)), H', ⟨Nat.le_refl _⟩, ⟨by (with_reducible repeat (first | apply Kd.R_alloc | apply Kd.R_drewN | apply Kd.R_drew)); exact HO_5.out⟩, ⟨by (with_reducible repeat (first | apply Kd.R_alloc | apply Kd.R_drewN | apply Kd.R_drew)); exact HO_6.out⟩, ⟨by repeat (first | (with_reducible first | exact HB.out | apply below_alloc | apply pw_below_drewN | apply below_drew1) | exact HB.out)⟩⟩
                case round =>
                  clear H'
                  try clear c1
                  try clear c2
                  try clear p2
                  try clear c3
                  try clear c3b0
                  try clear c3b1
                  try clear c5
                  try clear c9
                  try clear c9b0
                  try clear c9b1
                  try clear c12
                  try clear c13
                  try clear c16
                  try clear c16b0
                  try clear c16b1
                  try clear c17
                  try clear c17b0
                  try clear c17b1
                  try clear c18
                  try clear c18b0
                  try clear c18b1
                  try clear c18b2
                  try clear c19
                  try clear c20
                  try clear c22
                  try clear p2
                  obtain ⟨x8_3, rfl, HA, HK3, HO_5, HO_6, HB⟩ := hrel
                  cases gk with
                  | zero => exact absurd HA.out (by simp [pomadelaw05_CoinsPearson.l0])
                  | succ k3 =>
                    have H := HA.out
                    clear HA
                    simp only [pomadelaw05_CoinsPearson.l0] at H
                    by_cases c23 : x8_3 < (l0.length : Int)
                    · rw [if_pos c23] at H
                      have c23b0 : decide (x8_3 < (l0.length : Int)) = true := decide_eq_true c23
                      clear c23
                      by_cases c24 : 0 ≤ x8_3
                      · rw [if_pos c24] at H
                        have c24b0 : decide (0 ≤ x8_3) = true := decide_eq_true c24
                        clear c24
                        by_cases c25 : x8_3 < (t286.length : Int)
                        · rw [if_pos c25] at H
                          have c25b0 : decide (x8_3 < (t286.length : Int)) = true := decide_eq_true c25
                          clear c25
                          by_cases c26 : (rd t286 x8_3) > 0
                          · rw [if_pos c26] at H
                            have c26b0 : decide (0 < (rd t286 x8_3)) = true := decide_eq_true c26
                            clear c26
                            by_cases c27 : x8_3 < (t290.length : Int)
                            · rw [if_pos c27] at H
                              have c27b0 : decide (x8_3 < (t290.length : Int)) = true := decide_eq_true c27
                              clear c27
                              by_cases c28 : (rd t290 x8_3) > 0
                              · rw [if_pos c28] at H
                                have c28b0 : decide (0 < (rd t290 x8_3)) = true := decide_eq_true c28
                                clear c28
                                obtain rfl := Option.some.inj H
                                obtain ⟨Ao29, co29, eo29⟩ := Kd.R_slice HO_5.out
                                subst eo29
                                have p294 : 0 ≤ (x8_3 : Int) := of_decide_eq_true (by first | (with_reducible assumption) | assumption)
                                have q294 : x8_3 < (t286.length : Int) := of_decide_eq_true (by first | (with_reducible assumption) | assumption)
                                obtain ⟨ad294, e294, hx294_0⟩ := Kd.at_int (Kd.R_reads' HO_5.out).2.2 x8_3 p294 q294
                                cases e294
                                replace p294 := eq_true p294
                                replace q294 := eq_true q294
                                obtain ⟨Ao30, co30, eo30⟩ := Kd.R_slice HO_6.out
                                subst eo30
                                have p295 : 0 ≤ (x8_3 : Int) := of_decide_eq_true (by first | (with_reducible assumption) | assumption)
                                have q295 : x8_3 < (t290.length : Int) := of_decide_eq_true (by first | (with_reducible assumption) | assumption)
                                obtain ⟨ad295, e295, hx295_0⟩ := Kd.at_int (Kd.R_reads' HO_6.out).2.2 x8_3 p295 q295
                                cases e295
                                replace p295 := eq_true p295
                                replace q295 := eq_true q295
                                go_wp2
                                go_ret
                                exact ⟨by first | rfl | (simp [errW_none, errW_some] <;> rfl) | (simp [*, errW_none, errW_some] <;> rfl), by repeat (first | (with_reducible first | exact HB.out | apply below_alloc | apply pw_below_drewN | apply below_drew1) | exact HB.out)⟩
                              · rw [if_neg c28] at H
                                have c28b0 : decide (0 < (rd t290 x8_3)) = false := decide_eq_false c28
                                clear c28
                                have H' := Aside0.mk H
                                clear H
                                obtain ⟨Ao31, co31, eo31⟩ := Kd.R_slice HO_5.out
                                subst eo31
                                have p294 : 0 ≤ (x8_3 : Int) := of_decide_eq_true (by first | (with_reducible assumption) | assumption)
                                have q294 : x8_3 < (t286.length : Int) := of_decide_eq_true (by first | (with_reducible assumption) | assumption)
                                obtain ⟨ad294, e294, hx294_0⟩ := Kd.at_int (Kd.R_reads' HO_5.out).2.2 x8_3 p294 q294
                                cases e294
                                replace p294 := eq_true p294
                                replace q294 := eq_true q294
                                obtain ⟨Ao32, co32, eo32⟩ := Kd.R_slice HO_6.out
                                subst eo32
                                have p295 : 0 ≤ (x8_3 : Int) := of_decide_eq_true (by first | (with_reducible assumption) | assumption)
                                have q295 : x8_3 < (t290.length : Int) := of_decide_eq_true (by first | (with_reducible assumption) | assumption)
                                obtain ⟨ad295, e295, hx295_0⟩ := Kd.at_int (Kd.R_reads' HO_6.out).2.2 x8_3 p295 q295
                                cases e295
                                replace p295 := eq_true p295
                                replace q295 := eq_true q295
                                go_wp2
                                go_roundg k3
                                case measure => have := HJ1.out; have := HJ11.out; have := HK3.out; omega
                                case rel => exact ⟨(wrap64 (x8_3 + 1)), (by first | rfl | (simp; done) | (simp [*]; done)), H', ⟨by have := HJ1.out; have := HJ11.out; have := HK3.out; omega⟩, ⟨by (with_reducible repeat (first | apply Kd.R_alloc | apply Kd.R_drewN | apply Kd.R_drew)); exact HO_5.out⟩, ⟨by (with_reducible repeat (first | apply Kd.R_alloc | apply Kd.R_drewN | apply Kd.R_drew)); exact HO_6.out⟩, ⟨by repeat (first | (with_reducible first | exact HB.out | apply below_alloc | apply pw_below_drewN | apply below_drew1) | exact HB.out)⟩⟩
                            · rw [if_neg c27] at H
                              exact absurd H (by simp)
                          · rw [if_neg c26] at H
                            have c26b0 : decide (0 < (rd t286 x8_3)) = false := decide_eq_false c26
                            clear c26
                            have H' := Aside0.mk H
                            clear H
                            obtain ⟨Ao33, co33, eo33⟩ := Kd.R_slice HO_5.out
                            subst eo33
                            have p294 : 0 ≤ (x8_3 : Int) := of_decide_eq_true (by first | (with_reducible assumption) | assumption)
                            have q294 : x8_3 < (t286.length : Int) := of_decide_eq_true (by first | (with_reducible assumption) | assumption)
                            obtain ⟨ad294, e294, hx294_0⟩ := Kd.at_int (Kd.R_reads' HO_5.out).2.2 x8_3 p294 q294
                            cases e294
                            replace p294 := eq_true p294
                            replace q294 := eq_true q294
                            go_wp2
                            go_roundg k3
                            case measure => have := HJ1.out; have := HJ11.out; have := HK3.out; omega
                            case rel => exact ⟨(wrap64 (x8_3 + 1)), (by first | rfl | (simp; done) | (simp [*]; done)), H', ⟨by have := HJ1.out; have := HJ11.out; have := HK3.out; omega⟩, ⟨by (with_reducible repeat (first | apply Kd.R_alloc | apply Kd.R_drewN | apply Kd.R_drew)); exact HO_5.out⟩, ⟨by (with_reducible repeat (first | apply Kd.R_alloc | apply Kd.R_drewN | apply Kd.R_drew)); exact HO_6.out⟩, ⟨by repeat (first | (with_reducible first | exact HB.out | apply below_alloc | apply pw_below_drewN | apply below_drew1) | exact HB.out)⟩⟩
                        · rw [if_neg c25] at H
                          exact absurd H (by simp)
                      · rw [if_neg c24] at H
                        exact absurd H (by simp)
                    · rw [if_neg c23] at H
                      have c23b0 : decide (x8_3 < (l0.length : Int)) = false := decide_eq_false c23
                      clear c23
                      replace H := Option.bind_eq_some_iff.mp H
                      obtain ⟨t296, A340, H⟩ := H
                      replace H : (some t296) = some r := H
                      have A34 := Aside0.mk A340
                      clear A340
                      obtain rfl := Option.some.inj H
                      go_wp2_with (first | ((with_reducible refine gate_callee (f := 12) rfl ?_); refine goesL_ (some 84) rfl rfl Try.func12 (by kernel_rfl) rfl #[] rfl (by (try simp only [List.map_toArray, List.map_cons, List.map_nil]); first | done | rfl | (simp only [List.length_drop, List.length_take]; rfl)) ?_; (with_reducible refine (pomadelaw05_alive.calls k3  t296 _ A34.out).mono ?_); rintro e w35 ⟨rfl, hb⟩; refine ⟨_, rfl, ?_⟩; have n0_ := Aside0.mk (Kd.R_below (by (with_reducible repeat (first | apply Kd.R_alloc | apply Kd.R_drewN | apply Kd.R_drew)); exact HO_5.out) hb); have n1_ := Aside0.mk (Kd.R_below (by (with_reducible repeat (first | apply Kd.R_alloc | apply Kd.R_drewN | apply Kd.R_drew)); exact HO_6.out) hb); have n2_ := Aside0.mk (below_step (by repeat (first | (with_reducible first | exact HB.out | apply below_alloc | apply pw_below_drewN | apply below_drew1) | exact HB.out)) hb); clear HO_5; clear HO_6; clear HB; have HO_5 := n0_; have HO_6 := n1_; have HB := n2_; clear n0_ n1_ n2_; (try clear hb); (try clear hb2); (try clear hk); (try clear hi)))
                      go_ret
                      exact ⟨by first | rfl | (simp [errW_none, errW_some] <;> rfl) | (simp [*, errW_none, errW_some] <;> rfl), by repeat (first | (with_reducible first | exact HB.out | apply below_alloc | apply pw_below_drewN | apply below_drew1) | exact HB.out)⟩
        · rw [if_neg c9] at H
          have c9b0 : (t284 == 0) = false := beq_eq_false_iff_ne.mpr c9
          have c9b1 : (t284 != 0) = true := bne_iff_ne.mpr c9
          by_cases c36 : t284 = 10
          · rw [if_pos c36] at H
            have c36b0 : (t284 == 10) = true := beq_iff_eq.mpr c36
            have c36b1 : (t284 != 10) = false := bne_eq_false_iff_eq.mpr c36
            clear c36
            by_cases c37 : t283 = 0
            · rw [if_pos c37] at H
              have c37b0 : (t283 == 0) = true := beq_iff_eq.mpr c37
              have c37b1 : (t283 != 0) = false := bne_eq_false_iff_eq.mpr c37
              clear c37
              replace H := Option.bind_eq_some_iff.mp H
              obtain ⟨t285, A380, H⟩ := H
              replace H : (some t285) = some r := H
              have A38 := Aside0.mk A380
              clear A380
              obtain rfl := Option.some.inj H
              go_wp2_with (first | ((with_reducible refine gate_callee (f := 19) rfl ?_); refine goesL_ (some 20) rfl rfl Try.func19 (by kernel_rfl) rfl #[.slice A0 l0.length c0] rfl (by (try simp only [List.map_toArray, List.map_cons, List.map_nil]); first | done | rfl | (simp only [List.length_drop, List.length_take]; rfl)) ?_; (with_reducible refine (coins_Fails.calls kj1 _ _ l0 t283 t284 _ ?side1 ?side2 A8.out).mono ?_); (case side1 => repeat (first | exact (Kd.C_below HR0.out HB.out) | (with_reducible refine Kd.C_alloc ?_ _) | (with_reducible refine Kd.C_drewN ?_ _) | (with_reducible refine Kd.C_drew ?_))); (case side2 => exact HC0.out); rintro e w39 ⟨rfl, hb⟩; refine ⟨_, rfl, ?_⟩; have n0_ := Aside0.mk (below_step (by repeat (first | (with_reducible first | exact HB.out | apply below_alloc | apply pw_below_drewN | apply below_drew1) | exact HB.out)) hb); clear HB; have HB := n0_; clear n0_; (try clear hb); (try clear hb2); (try clear hk); (try clear hi)) | (go_at_call 12; (with_reducible refine (pomadelaw05_alive.calls kj1  t285 _ A38.out).mono ?_); rintro e w40 ⟨rfl, hb⟩; have n0_ := Aside0.mk (below_step (by repeat (first | (with_reducible first | exact HB.out | apply below_alloc | apply pw_below_drewN | apply below_drew1) | exact HB.out)) hb); clear HB; have HB := n0_; clear n0_; (try clear hb); (try clear hb2); (try clear hk); (try clear hi)))
              go_ret
              exact ⟨by first | rfl | (simp [errW_none, errW_some] <;> rfl) | (simp [*, errW_none, errW_some] <;> rfl), by repeat (first | (with_reducible first | exact HB.out | apply below_alloc | apply pw_below_drewN | apply below_drew1) | exact HB.out)⟩
            · rw [if_neg c37] at H
              have c37b0 : (t283 == 0) = false := beq_eq_false_iff_ne.mpr c37
              have c37b1 : (t283 != 0) = true := bne_iff_ne.mpr c37
              obtain rfl := Option.some.inj H
              go_wp2_with (first | ((with_reducible refine gate_callee (f := 19) rfl ?_); refine goesL_ (some 20) rfl rfl Try.func19 (by kernel_rfl) rfl #[.slice A0 l0.length c0] rfl (by (try simp only [List.map_toArray, List.map_cons, List.map_nil]); first | done | rfl | (simp only [List.length_drop, List.length_take]; rfl)) ?_; (with_reducible refine (coins_Fails.calls kj1 _ _ l0 t283 t284 _ ?side1 ?side2 A8.out).mono ?_); (case side1 => repeat (first | exact (Kd.C_below HR0.out HB.out) | (with_reducible refine Kd.C_alloc ?_ _) | (with_reducible refine Kd.C_drewN ?_ _) | (with_reducible refine Kd.C_drew ?_))); (case side2 => exact HC0.out); rintro e w41 ⟨rfl, hb⟩; refine ⟨_, rfl, ?_⟩; have n0_ := Aside0.mk (below_step (by repeat (first | (with_reducible first | exact HB.out | apply below_alloc | apply pw_below_drewN | apply below_drew1) | exact HB.out)) hb); clear HB; have HB := n0_; clear n0_; (try clear hb); (try clear hb2); (try clear hk); (try clear hi)))
              go_ret
              exact ⟨by first | rfl | (simp [errW_none, errW_some] <;> rfl) | (simp [*, errW_none, errW_some] <;> rfl), by repeat (first | (with_reducible first | exact HB.out | apply below_alloc | apply pw_below_drewN | apply below_drew1) | exact HB.out)⟩
          · rw [if_neg c36] at H
            have c36b0 : (t284 == 10) = false := beq_eq_false_iff_ne.mpr c36
            have c36b1 : (t284 != 10) = true := bne_iff_ne.mpr c36
            obtain rfl := Option.some.inj H
            go_wp2_with (first | ((with_reducible refine gate_callee (f := 19) rfl ?_); refine goesL_ (some 20) rfl rfl Try.func19 (by kernel_rfl) rfl #[.slice A0 l0.length c0] rfl (by (try simp only [List.map_toArray, List.map_cons, List.map_nil]); first | done | rfl | (simp only [List.length_drop, List.length_take]; rfl)) ?_; (with_reducible refine (coins_Fails.calls kj1 _ _ l0 t283 t284 _ ?side1 ?side2 A8.out).mono ?_); (case side1 => repeat (first | exact (Kd.C_below HR0.out HB.out) | (with_reducible refine Kd.C_alloc ?_ _) | (with_reducible refine Kd.C_drewN ?_ _) | (with_reducible refine Kd.C_drew ?_))); (case side2 => exact HC0.out); rintro e w42 ⟨rfl, hb⟩; refine ⟨_, rfl, ?_⟩; have n0_ := Aside0.mk (below_step (by repeat (first | (with_reducible first | exact HB.out | apply below_alloc | apply pw_below_drewN | apply below_drew1) | exact HB.out)) hb); clear HB; have HB := n0_; clear n0_; (try clear hb); (try clear hb2); (try clear hk); (try clear hi)))
            go_ret
            exact ⟨by first | rfl | (simp [errW_none, errW_some] <;> rfl) | (simp [*, errW_none, errW_some] <;> rfl), by repeat (first | (with_reducible first | exact HB.out | apply below_alloc | apply pw_below_drewN | apply below_drew1) | exact HB.out)⟩

/-- THE ONE PURE STATEMENT of pomadelaw05_CoinsPearson: yours. -/
def pomadelaw05_CoinsPearson.Pure : Prop := ∀ (l0 : List Int), l0.length ≤ maxLen → l0.length * 8 ≤ 140737488351232 → (∀ x ∈ l0, (Lit.int .i64 x).wf = true) → ∃ k, pomadelaw05_CoinsPearson.f k l0 = some true
theorem pomadelaw05_CoinsPearson.walk (P : pomadelaw05_CoinsPearson.Pure) (a0 : Option Addr) (len0 cap0 : Nat) (z0 : List Int) (w : World) (w0 : (a0 = none ∧ len0 = 0 ∧ cap0 = 0 ∧ z0 = []) ∨ ∃ x, a0 = some x ∧ len0 ≤ cap0 ∧ cap0 ≤ maxLen ∧ z0.length = cap0 ∧ (∀ i, i < z0.length → w.cell? (x.add i) = some (.int .i64 (z0.getD i 0))) ∧ ∀ n ∈ z0, (Lit.int .i64 n).wf = true) (y0 : len0 * 8 ≤ 140737488351232) :
    Calls Try.prog 5 #[.slice a0 len0 cap0] w fun e w' => e = .returned (.bool true) ∧ Below w.heap.size w w' := by
  obtain ⟨l0, rfl, hr0, hm0, hw0, hc0⟩ := ReadsInt.ofRowC w0
  obtain ⟨k, h⟩ := P l0 hm0 y0 hw0
  refine (pomadelaw05_CoinsPearson.calls k _ _ l0 true w (Kd.C_of_reads (d := (0 : Int)) (h1 := fun _ => rfl) hr0) hc0 h).mono ?_
  rintro e w' ⟨rfl, hd⟩
  exact ⟨rfl, hd⟩

end Go.Proofs.Ytgbalmjnjpfopaa.PC
