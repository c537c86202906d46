-- Printed by a program of this session (mkprint.sh, over the kit's print.py), with own proofs for the functions that the print does not take.
import Derived.Test.YtjfkompfkgjdaaaPCx0
namespace Go.Proofs.Ytjfkompfkgjdaaa.PC
open Go.RowKit Go.Proofs.YtjfkompfkgjdaaaW.PrintWords Go.Proofs.YtjfkompfkgjdaaaW.PrintLast Go.Proofs.YtjfkompfkgjdaaaW.PrintMore
attribute [local go_sem] max2_int min2_int max_two min_two max_three min_three max_four min_four   -- for this text's walks alone
set_option linter.unusedVariables false
set_option linter.unusedSimpArgs false

/-! ### pomaderef07_Systems: function 63 -/
def pomaderef07_Systems.f : Nat → Int → ByteArray → Int → Option (List ByteArray)
  | 0, _, _, _ => none
  | k + 1, a0, a1, a2 => if (a1.size : Int) = (wrap64 (2 * a0)) then (some (([a1] : List ByteArray))) else (if a2 < (wrap64 ((wrap64 (2 * a0)) - (a1.size : Int))) then (if a1.size + 1 ≤ 9223372036854775807 then ((pomaderef07_Systems.f k a0 (a1 ++ (⟨#[40]⟩ : ByteArray)) (wrap64 (a2 + 1))).bind fun t586 => (if ([] : List ByteArray).length + t586.length < 8796093022208 then ((some (([] : List ByteArray) ++ t586 : List ByteArray)).bind fun y589 => (if a2 > 0 then ((pomaderef07_Systems.f k a0 (a1 ++ (⟨#[41]⟩ : ByteArray)) (wrap64 (a2 - 1))).bind fun t592 => (if y589.length + t592.length < 8796093022208 then (some (y589 ++ t592)) else (none))) else (some y589))) else (none))) else (none)) else (if a2 > 0 then (if a1.size + 1 ≤ 9223372036854775807 then ((pomaderef07_Systems.f k a0 (a1 ++ (⟨#[41]⟩ : ByteArray)) (wrap64 (a2 - 1))).bind fun t598 => (if ([] : List ByteArray).length + t598.length < 8796093022208 then (some (([] : List ByteArray) ++ t598)) else (none))) else (none)) else (some ([] : List ByteArray))))
theorem pomaderef07_Systems.mono_l : ∀ k, (∀ y0 y1 y2, LeO (pomaderef07_Systems.f k y0 y1 y2) (pomaderef07_Systems.f (k + 1) y0 y1 y2))
  | 0 => fun _ _ _ r h => by simp [pomaderef07_Systems.f] at h
  | k + 1 => by
    have ih0 := pomaderef07_Systems.mono_l k
    · intro y0 y1 y2
      unfold pomaderef07_Systems.f
      repeat' first
      | (with_reducible exact ih0 _ _ _)
      | (with_reducible exact LeO.refl _)
      | (with_reducible exact LeO.none _)
      | (with_reducible refine LeO.ite ?_ ?_)
      | (with_reducible refine LeO.bind ?_ (fun _ => ?_))
      | exact ih0 _ _ _
      | exact LeO.none _
      | refine LeO.ite ?_ ?_
      | refine LeO.bind ?_ (fun _ => ?_)
theorem pomaderef07_Systems.mono : ∀ a0 a1 a2 k, LeO (pomaderef07_Systems.f k a0 a1 a2) (pomaderef07_Systems.f (k + 1) a0 a1 a2) := by
  intro a0 a1 a2 k
  have ih0 := pomaderef07_Systems.mono_l k
  exact ih0 a0 a1 a2
set_option maxHeartbeats 8000000 in
set_option maxRecDepth 100000 in
theorem pomaderef07_Systems.calls (k : Nat) : ∀ (a0 : Int) (a1 : ByteArray) (a2 : Int) (r : List ByteArray) (w : World) (h : pomaderef07_Systems.f k a0 a1 a2 = some r),
    Calls Try.prog 63 #[.int .i64 a0, .string a1, .int .i64 a2] w fun e w' => ∃ v0_ : Value, e = .returned (v0_) ∧ Kd.R Kd.string 9 w' w.heap.size (fun _ => True) v0_ r ∧ Below w.heap.size w w' := by
  induction k using Nat.strongRecOn with
  | _ k ih =>
  intro a0 a1 a2 r w h
  cases k with
  | zero => exact absurd h (by simp [pomaderef07_Systems.f])
  | succ k =>
  simp only [pomaderef07_Systems.f] at h
  have HB := Aside0.mk (Below.refl w.heap.size w)
  have H : (if (a1.size : Int) = (wrap64 (2 * a0)) then (some (([a1] : List ByteArray))) else (if a2 < (wrap64 ((wrap64 (2 * a0)) - (a1.size : Int))) then (if a1.size + 1 ≤ 9223372036854775807 then ((pomaderef07_Systems.f k a0 (a1 ++ (⟨#[40]⟩ : ByteArray)) (wrap64 (a2 + 1))).bind fun t586 => (if ([] : List ByteArray).length + t586.length < 8796093022208 then ((some (([] : List ByteArray) ++ t586 : List ByteArray)).bind fun y589 => (if a2 > 0 then ((pomaderef07_Systems.f k a0 (a1 ++ (⟨#[41]⟩ : ByteArray)) (wrap64 (a2 - 1))).bind fun t592 => (if y589.length + t592.length < 8796093022208 then (some (y589 ++ t592)) else (none))) else (some y589))) else (none))) else (none)) else (if a2 > 0 then (if a1.size + 1 ≤ 9223372036854775807 then ((pomaderef07_Systems.f k a0 (a1 ++ (⟨#[41]⟩ : ByteArray)) (wrap64 (a2 - 1))).bind fun t598 => (if ([] : List ByteArray).length + t598.length < 8796093022208 then (some (([] : List ByteArray) ++ t598)) else (none))) else (none)) else (some ([] : List ByteArray))))) = some r := h
  clear h
  by_cases c4 : (a1.size : Int) = (wrap64 (2 * a0))
  · rw [if_pos c4] at H
    have c4b0 : ((a1.size : Int) == (wrap64 (2 * a0))) = true := beq_iff_eq.mpr c4
    have c4b1 : ((a1.size : Int) != (wrap64 (2 * a0))) = false := bne_eq_false_iff_eq.mpr c4
    clear c4
    obtain ⟨y583, hy583⟩ : ∃ y_ : List ByteArray, y_ = (([a1] : List ByteArray)) := ⟨_, rfl⟩
    replace H : (some y583) = some r := by first | (rw [hy583]; with_reducible exact H) | (have H2_ := (Option.bind_some _ _).symm.trans H; rw [hy583]; with_reducible exact H2_) | (have H2_ := (Option.bind_some _ _).symm.trans H; with_reducible exact H2_) | with_reducible exact H | (rw [hy583]; exact H) | exact H
    have Ny583 := Aside0.mk hy583
    clear hy583
    obtain rfl := Option.some.inj H
    go_enter Try.func63, Try.ntmps63
    go_wp2_with (first | ((with_reducible refine gate_dst (N := 15) rfl ?_); refine Kd.R_lit Kd.string _ 9 ?hg (N := 15) ?hd (xs := ([a1] : List ByteArray)) (inner := [.string a1]) (ok := fun _ => True) (okp := fun _ => True) ?hr ?hp (fun _ hk => hk) trivial (Below.refl _ _) (Nat.le_refl _) (by simp) ?_; (case hd => rfl); (case hg => rfl); (case hr => first | (go_simp; done) | (go_simp; rfl)); (case hp => exact (Reps.one (show Kd.M Kd.string _ _ _ a1 [.string a1] from rfl) (Reps.none _ _))); intro v584 w5 ho6 hb hg_ hnew_; clear hg_ hnew_; (first | rw [← Ny583.out] at ho6 | (simp only [Int.reduceToNat] at ho6; rw [← Ny583.out] at ho6)); have n0_ := Aside0.mk (Kd.R_lower ho6 (below_size (by repeat (first | (with_reducible first | exact HB.out | apply below_alloc | apply pw_below_drewN | apply below_drew1) | exact HB.out)))); have n1_ := Aside0.mk (below_step (by repeat (first | (with_reducible first | exact HB.out | apply below_alloc | apply pw_below_drewN | apply below_drew1) | exact HB.out)) hb); clear HB; have HO585 := n0_; have HB := n1_; clear n0_ n1_; clear hb ho6))
    go_ret
    exact ⟨_, by first | rfl | (simp [errW_none, errW_some] <;> rfl) | (simp [*, errW_none, errW_some] <;> rfl), by (with_reducible repeat (first | apply Kd.R_alloc | apply Kd.R_drewN | apply Kd.R_drew)); exact HO585.out, by repeat (first | (with_reducible first | exact HB.out | apply below_alloc | apply pw_below_drewN | apply below_drew1) | exact HB.out)⟩
  · rw [if_neg c4] at H
    have c4b0 : ((a1.size : Int) == (wrap64 (2 * a0))) = false := beq_eq_false_iff_ne.mpr c4
    have c4b1 : ((a1.size : Int) != (wrap64 (2 * a0))) = true := bne_iff_ne.mpr c4
    by_cases c7 : a2 < (wrap64 ((wrap64 (2 * a0)) - (a1.size : Int)))
    · rw [if_pos c7] at H
      have c7b0 : decide (a2 < (wrap64 ((wrap64 (2 * a0)) - (a1.size : Int)))) = true := decide_eq_true c7
      clear c7
      by_cases c8 : a1.size + 1 ≤ 9223372036854775807
      · rw [if_pos c8] at H
        have c8b0 := eq_true c8
        have c8b1 : decide (a1.size + 1 ≤ 9223372036854775807) = true := decide_eq_true c8
        try have c8b2 : (9223372036854775807 < a1.size + 1) = False := eq_false (Nat.not_lt.2 c8)
        replace H := Option.bind_eq_some_iff.mp H
        obtain ⟨t586, A90, H⟩ := H
        replace H : (if ([] : List ByteArray).length + t586.length < 8796093022208 then ((some (([] : List ByteArray) ++ t586 : List ByteArray)).bind fun y589 => (if a2 > 0 then ((pomaderef07_Systems.f k a0 (a1 ++ (⟨#[41]⟩ : ByteArray)) (wrap64 (a2 - 1))).bind fun t592 => (if y589.length + t592.length < 8796093022208 then (some (y589 ++ t592)) else (none))) else (some y589))) else (none)) = some r := H
        have A9 := Aside0.mk A90
        clear A90
        by_cases c10 : ([] : List ByteArray).length + t586.length < 8796093022208
        · rw [if_pos c10] at H
          have LMc10 := Aside0.mk c10
          clear c10
          obtain ⟨y589, hy589⟩ : ∃ y_ : List ByteArray, y_ = (([] : List ByteArray) ++ t586) := ⟨_, rfl⟩
          replace H : (if a2 > 0 then ((pomaderef07_Systems.f k a0 (a1 ++ (⟨#[41]⟩ : ByteArray)) (wrap64 (a2 - 1))).bind fun t592 => (if y589.length + t592.length < 8796093022208 then (some (y589 ++ t592)) else (none))) else (some y589)) = some r := by first | (rw [hy589]; with_reducible exact H) | (have H2_ := (Option.bind_some _ _).symm.trans H; rw [hy589]; with_reducible exact H2_) | (have H2_ := (Option.bind_some _ _).symm.trans H; with_reducible exact H2_) | with_reducible exact H | (rw [hy589]; exact H) | exact H
          have Ny589 := Aside0.mk hy589
          clear hy589
          by_cases c11 : a2 > 0
          · rw [if_pos c11] at H
            have c11b0 : decide (0 < a2) = true := decide_eq_true c11
            clear c11
            replace H := Option.bind_eq_some_iff.mp H
            obtain ⟨t592, A120, H⟩ := H
            replace H : (if y589.length + t592.length < 8796093022208 then (some (y589 ++ t592)) else (none)) = some r := H
            have A12 := Aside0.mk A120
            clear A120
            by_cases c13 : y589.length + t592.length < 8796093022208
            · rw [if_pos c13] at H
              have LMc13 := Aside0.mk c13
              clear c13
              obtain ⟨y595, hy595⟩ : ∃ y_ : List ByteArray, y_ = (y589 ++ t592) := ⟨_, rfl⟩
              replace H : (some y595) = some r := by first | (rw [hy595]; with_reducible exact H) | (have H2_ := (Option.bind_some _ _).symm.trans H; rw [hy595]; with_reducible exact H2_) | (have H2_ := (Option.bind_some _ _).symm.trans H; with_reducible exact H2_) | with_reducible exact H | (rw [hy595]; exact H) | exact H
              have Ny595 := Aside0.mk hy595
              clear hy595
              obtain rfl := Option.some.inj H
              go_enter Try.func63, Try.ntmps63
              go_wp2_with (first | ((with_reducible refine gate_callee (f := 63) rfl ?_); refine goesL_ (some 30) rfl rfl Try.func63 (by kernel_rfl) rfl #[.int .i64 a0, .string (a1 ++ (⟨#[40]⟩ : ByteArray)), .int .i64 (wrap64 (a2 + 1))] rfl (by (try simp only [List.map_toArray, List.map_cons, List.map_nil]); first | done | rfl | (simp only [List.length_drop, List.length_take]; rfl)) ?_; (with_reducible refine (ih k (by omega) a0 (a1 ++ (⟨#[40]⟩ : ByteArray)) (wrap64 (a2 + 1)) t586 _ A9.out).mono ?_); rintro e w14 ⟨v587, rfl, ho0, hb⟩; refine ⟨_, rfl, ?_⟩; have n0_ := Aside0.mk (Kd.R_lower ho0 (below_size (by repeat (first | (with_reducible first | exact HB.out | apply below_alloc | apply pw_below_drewN | apply below_drew1) | exact HB.out)))); have n1_ := Aside0.mk (below_step (by repeat (first | (with_reducible first | exact HB.out | apply below_alloc | apply pw_below_drewN | apply below_drew1) | exact HB.out)) hb); clear HB; have HO588 := n0_; have HB := n1_; clear n0_ n1_; (try clear hb); (try clear hb2); (try clear hk); (try clear hi); (try clear ho0); obtain ⟨Ao16, co16, eo16⟩ := Kd.R_slice HO588.out; subst eo16) | ((with_reducible refine gate_builtin (b := .append) (xs := #[.tmp 24, .tmp 30]) rfl ?_); at_builtin; refine Kd.R_append_rows Kd.string (w0 := w) w.heap.size rfl (.tmp 24) (.tmp 30) 79 9 (.string ⟨#[]⟩) 16 rfl Try.underlying79 info9 rfl (by decide) (by omega) (.slice none 0 0) ([] : List ByteArray) t586 _ _ _ (fun k_ => some k_ ≠ (.slice Ao16 t586.length co16 : Value).ownBlock) (fun _ => False) rfl rfl ?aO ?aR (fun _ _ h => h) (fun _ h => h.elim) ?aF ?aB ?aS ?aL ?_; (case aR => repeat (first | exact (Kd.R_reads' HO588.out).2.2 | (with_reducible refine Kd.C_alloc ?_ _) | (with_reducible refine Kd.C_drewN ?_ _) | (with_reducible refine Kd.C_drew ?_))); (case aB => exact (by repeat (first | (with_reducible first | exact HB.out | apply below_alloc | apply pw_below_drewN | apply below_drew1) | exact HB.out))); (case aF => exact (fun k_ hk => Kd.fresh' (Kd.R_lt (by (with_reducible repeat (first | apply Kd.R_alloc | apply Kd.R_drewN | apply Kd.R_drew)); exact HO588.out)) k_ hk)); (case aO => exact ((Kd.R_nil _ _ _ _ (fun k_ => some k_ ≠ (.slice Ao16 t586.length co16 : Value).ownBlock)))); (case aS => exact (below_size (by repeat (first | (with_reducible first | exact HB.out | apply below_alloc | apply pw_below_drewN | apply below_drew1) | exact HB.out)))); (case aL => have := LMc10.out; omega); intro v590 w15 ho hb hg hat; rw [← Ny589.out] at ho; have n0_ := Aside0.mk (Kd.R_after (Kd.R_apart_nil (by (with_reducible repeat (first | apply Kd.R_alloc | apply Kd.R_drewN | apply Kd.R_drew)); exact HO588.out)) hg hat); have n1_ := Aside0.mk (hb); have n2_ := Aside0.mk (ho); clear HO588; clear HB; have HO588 := n0_; have HB := n1_; have HO591 := n2_; clear n0_ n1_ n2_; clear ho hb hg hat) | ((with_reducible refine gate_callee (f := 63) rfl ?_); refine goesL_ (some 40) rfl rfl Try.func63 (by kernel_rfl) rfl #[.int .i64 a0, .string (a1 ++ (⟨#[41]⟩ : ByteArray)), .int .i64 (wrap64 (a2 - 1))] rfl (by (try simp only [List.map_toArray, List.map_cons, List.map_nil]); first | done | rfl | (simp only [List.length_drop, List.length_take]; rfl)) ?_; (with_reducible refine (ih k (by omega) a0 (a1 ++ (⟨#[41]⟩ : ByteArray)) (wrap64 (a2 - 1)) t592 _ A12.out).mono ?_); rintro e w17 ⟨v593, rfl, ho0, hb⟩; refine ⟨_, rfl, ?_⟩; have n0_ := Aside0.mk (Kd.R_elder' (by (with_reducible repeat (first | apply Kd.R_alloc | apply Kd.R_drewN | apply Kd.R_drew)); exact HO588.out) (Kd.R_base ho0) hb); have n1_ := Aside0.mk (Kd.R_elder' (by (with_reducible repeat (first | apply Kd.R_alloc | apply Kd.R_drewN | apply Kd.R_drew)); exact HO591.out) (Kd.R_base ho0) hb); have n2_ := Aside0.mk (Kd.R_lower (Kd.R_new' (Kd.R_new' ho0 (Kd.R_lt (by (with_reducible repeat (first | apply Kd.R_alloc | apply Kd.R_drewN | apply Kd.R_drew)); exact HO588.out))) (Kd.R_lt (by (with_reducible repeat (first | apply Kd.R_alloc | apply Kd.R_drewN | apply Kd.R_drew)); exact HO591.out))) (below_size (by repeat (first | (with_reducible first | exact HB.out | apply below_alloc | apply pw_below_drewN | apply below_drew1) | exact HB.out)))); have n3_ := Aside0.mk (below_step (by repeat (first | (with_reducible first | exact HB.out | apply below_alloc | apply pw_below_drewN | apply below_drew1) | exact HB.out)) hb); clear HO588; clear HO591; clear HB; have HO588 := n0_; have HO591 := n1_; have HO594 := n2_; have HB := n3_; clear n0_ n1_ n2_ n3_; (try clear hb); (try clear hb2); (try clear hk); (try clear hi); (try clear ho0); obtain ⟨Ao19, co19, eo19⟩ := Kd.R_slice HO594.out; subst eo19) | ((with_reducible refine gate_builtin (b := .append) (xs := #[.tmp 34, .tmp 40]) rfl ?_); at_builtin; refine Kd.R_append_rows Kd.string (w0 := w) w.heap.size rfl (.tmp 34) (.tmp 40) 79 9 (.string ⟨#[]⟩) 16 rfl Try.underlying79 info9 rfl (by decide) (by omega) v590 y589 t592 _ _ _ (fun k_ => some k_ ≠ (.slice Ao16 t586.length co16 : Value).ownBlock ∧ some k_ ≠ (.slice Ao19 t592.length co19 : Value).ownBlock) (fun _ => False) rfl rfl ?aO ?aR (fun _ _ h => h) (fun _ h => h.elim) ?aF ?aB ?aS ?aL ?_; (case aR => repeat (first | exact (Kd.R_reads' HO594.out).2.2 | (with_reducible refine Kd.C_alloc ?_ _) | (with_reducible refine Kd.C_drewN ?_ _) | (with_reducible refine Kd.C_drew ?_))); (case aB => exact (by repeat (first | (with_reducible first | exact HB.out | apply below_alloc | apply pw_below_drewN | apply below_drew1) | exact HB.out))); (case aF => exact (fun k_ hk => ⟨Kd.fresh' (Kd.R_lt (by (with_reducible repeat (first | apply Kd.R_alloc | apply Kd.R_drewN | apply Kd.R_drew)); exact HO588.out)) k_ hk, Kd.fresh' (Kd.R_lt (by (with_reducible repeat (first | apply Kd.R_alloc | apply Kd.R_drewN | apply Kd.R_drew)); exact HO594.out)) k_ hk⟩)); (case aO => exact (by (with_reducible repeat (first | apply Kd.R_alloc | apply Kd.R_drewN | apply Kd.R_drew)); exact HO591.out)); (case aS => exact (below_size (by repeat (first | (with_reducible first | exact HB.out | apply below_alloc | apply pw_below_drewN | apply below_drew1) | exact HB.out)))); (case aL => have := LMc13.out; omega); intro v596 w18 ho hb hg hat; rw [← Ny595.out] at ho; have n0_ := Aside0.mk (Kd.R_after (ok := (fun k_ => some k_ ≠ (.slice Ao19 t592.length co19 : Value).ownBlock)) (by (with_reducible repeat (first | apply Kd.R_alloc | apply Kd.R_drewN | apply Kd.R_drew)); exact Kd.R_mono HO588.out (fun _ hk => ⟨hk.2, hk.1.2⟩)) hg hat); have n1_ := Aside0.mk (Kd.R_after (ok := (fun k_ => some k_ ≠ (.slice Ao16 t586.length co16 : Value).ownBlock)) (by (with_reducible repeat (first | apply Kd.R_alloc | apply Kd.R_drewN | apply Kd.R_drew)); exact Kd.R_mono HO594.out (fun _ hk => ⟨hk.1.2, hk.2⟩)) hg hat); have n2_ := Aside0.mk (hb); have n3_ := Aside0.mk (ho); clear HO588; clear HO594; clear HB; clear HO591; have HO588 := n0_; have HO594 := n1_; have HB := n2_; have HO597 := n3_; clear n0_ n1_ n2_ n3_; clear ho hb hg hat))
              go_ret
              exact ⟨_, by first | rfl | (simp [errW_none, errW_some] <;> rfl) | (simp [*, errW_none, errW_some] <;> rfl), by (with_reducible repeat (first | apply Kd.R_alloc | apply Kd.R_drewN | apply Kd.R_drew)); exact Kd.R_mono HO597.out (fun _ hk => trivial), by repeat (first | (with_reducible first | exact HB.out | apply below_alloc | apply pw_below_drewN | apply below_drew1) | exact HB.out)⟩
            · rw [if_neg c13] at H
              exact absurd H (by simp)
          · rw [if_neg c11] at H
            have c11b0 : decide (0 < a2) = false := decide_eq_false c11
            clear c11
            obtain rfl := Option.some.inj H
            go_enter Try.func63, Try.ntmps63
            go_wp2_with (first | ((with_reducible refine gate_callee (f := 63) rfl ?_); refine goesL_ (some 30) rfl rfl Try.func63 (by kernel_rfl) rfl #[.int .i64 a0, .string (a1 ++ (⟨#[40]⟩ : ByteArray)), .int .i64 (wrap64 (a2 + 1))] rfl (by (try simp only [List.map_toArray, List.map_cons, List.map_nil]); first | done | rfl | (simp only [List.length_drop, List.length_take]; rfl)) ?_; (with_reducible refine (ih k (by omega) a0 (a1 ++ (⟨#[40]⟩ : ByteArray)) (wrap64 (a2 + 1)) t586 _ A9.out).mono ?_); rintro e w20 ⟨v587, rfl, ho0, hb⟩; refine ⟨_, rfl, ?_⟩; have n0_ := Aside0.mk (Kd.R_lower ho0 (below_size (by repeat (first | (with_reducible first | exact HB.out | apply below_alloc | apply pw_below_drewN | apply below_drew1) | exact HB.out)))); have n1_ := Aside0.mk (below_step (by repeat (first | (with_reducible first | exact HB.out | apply below_alloc | apply pw_below_drewN | apply below_drew1) | exact HB.out)) hb); clear HB; have HO588 := n0_; have HB := n1_; clear n0_ n1_; (try clear hb); (try clear hb2); (try clear hk); (try clear hi); (try clear ho0); obtain ⟨Ao22, co22, eo22⟩ := Kd.R_slice HO588.out; subst eo22) | ((with_reducible refine gate_builtin (b := .append) (xs := #[.tmp 24, .tmp 30]) rfl ?_); at_builtin; refine Kd.R_append_rows Kd.string (w0 := w) w.heap.size rfl (.tmp 24) (.tmp 30) 79 9 (.string ⟨#[]⟩) 16 rfl Try.underlying79 info9 rfl (by decide) (by omega) (.slice none 0 0) ([] : List ByteArray) t586 _ _ _ (fun k_ => some k_ ≠ (.slice Ao22 t586.length co22 : Value).ownBlock) (fun _ => False) rfl rfl ?aO ?aR (fun _ _ h => h) (fun _ h => h.elim) ?aF ?aB ?aS ?aL ?_; (case aR => repeat (first | exact (Kd.R_reads' HO588.out).2.2 | (with_reducible refine Kd.C_alloc ?_ _) | (with_reducible refine Kd.C_drewN ?_ _) | (with_reducible refine Kd.C_drew ?_))); (case aB => exact (by repeat (first | (with_reducible first | exact HB.out | apply below_alloc | apply pw_below_drewN | apply below_drew1) | exact HB.out))); (case aF => exact (fun k_ hk => Kd.fresh' (Kd.R_lt (by (with_reducible repeat (first | apply Kd.R_alloc | apply Kd.R_drewN | apply Kd.R_drew)); exact HO588.out)) k_ hk)); (case aO => exact ((Kd.R_nil _ _ _ _ (fun k_ => some k_ ≠ (.slice Ao22 t586.length co22 : Value).ownBlock)))); (case aS => exact (below_size (by repeat (first | (with_reducible first | exact HB.out | apply below_alloc | apply pw_below_drewN | apply below_drew1) | exact HB.out)))); (case aL => have := LMc10.out; omega); intro v590 w21 ho hb hg hat; rw [← Ny589.out] at ho; have n0_ := Aside0.mk (Kd.R_after (Kd.R_apart_nil (by (with_reducible repeat (first | apply Kd.R_alloc | apply Kd.R_drewN | apply Kd.R_drew)); exact HO588.out)) hg hat); have n1_ := Aside0.mk (hb); have n2_ := Aside0.mk (ho); clear HO588; clear HB; have HO588 := n0_; have HB := n1_; have HO591 := n2_; clear n0_ n1_ n2_; clear ho hb hg hat))
            go_ret
            exact ⟨_, by first | rfl | (simp [errW_none, errW_some] <;> rfl) | (simp [*, errW_none, errW_some] <;> rfl), by (with_reducible repeat (first | apply Kd.R_alloc | apply Kd.R_drewN | apply Kd.R_drew)); exact Kd.R_mono HO591.out (fun _ hk => trivial), by repeat (first | (with_reducible first | exact HB.out | apply below_alloc | apply pw_below_drewN | apply below_drew1) | exact HB.out)⟩
        · rw [if_neg c10] at H
          exact absurd H (by simp)
      · rw [if_neg c8] at H
        exact absurd H (by simp)
    · rw [if_neg c7] at H
      have c7b0 : decide (a2 < (wrap64 ((wrap64 (2 * a0)) - (a1.size : Int)))) = false := decide_eq_false c7
      clear c7
      by_cases c23 : a2 > 0
      · rw [if_pos c23] at H
        have c23b0 : decide (0 < a2) = true := decide_eq_true c23
        clear c23
        by_cases c24 : a1.size + 1 ≤ 9223372036854775807
        · rw [if_pos c24] at H
          have c24b0 := eq_true c24
          have c24b1 : decide (a1.size + 1 ≤ 9223372036854775807) = true := decide_eq_true c24
          try have c24b2 : (9223372036854775807 < a1.size + 1) = False := eq_false (Nat.not_lt.2 c24)
          replace H := Option.bind_eq_some_iff.mp H
          obtain ⟨t598, A250, H⟩ := H
          replace H : (if ([] : List ByteArray).length + t598.length < 8796093022208 then (some (([] : List ByteArray) ++ t598)) else (none)) = some r := H
          have A25 := Aside0.mk A250
          clear A250
          by_cases c26 : ([] : List ByteArray).length + t598.length < 8796093022208
          · rw [if_pos c26] at H
            have LMc26 := Aside0.mk c26
            clear c26
            obtain ⟨y601, hy601⟩ : ∃ y_ : List ByteArray, y_ = (([] : List ByteArray) ++ t598) := ⟨_, rfl⟩
            replace H : (some y601) = some r := by first | (rw [hy601]; with_reducible exact H) | (have H2_ := (Option.bind_some _ _).symm.trans H; rw [hy601]; with_reducible exact H2_) | (have H2_ := (Option.bind_some _ _).symm.trans H; with_reducible exact H2_) | with_reducible exact H | (rw [hy601]; exact H) | exact H
            have Ny601 := Aside0.mk hy601
            clear hy601
            obtain rfl := Option.some.inj H
            go_enter Try.func63, Try.ntmps63
            go_wp2_with (first | ((with_reducible refine gate_callee (f := 63) rfl ?_); refine goesL_ (some 40) rfl rfl Try.func63 (by kernel_rfl) rfl #[.int .i64 a0, .string (a1 ++ (⟨#[41]⟩ : ByteArray)), .int .i64 (wrap64 (a2 - 1))] rfl (by (try simp only [List.map_toArray, List.map_cons, List.map_nil]); first | done | rfl | (simp only [List.length_drop, List.length_take]; rfl)) ?_; (with_reducible refine (ih k (by omega) a0 (a1 ++ (⟨#[41]⟩ : ByteArray)) (wrap64 (a2 - 1)) t598 _ A25.out).mono ?_); rintro e w27 ⟨v599, rfl, ho0, hb⟩; refine ⟨_, rfl, ?_⟩; have n0_ := Aside0.mk (Kd.R_lower ho0 (below_size (by repeat (first | (with_reducible first | exact HB.out | apply below_alloc | apply pw_below_drewN | apply below_drew1) | exact HB.out)))); have n1_ := Aside0.mk (below_step (by repeat (first | (with_reducible first | exact HB.out | apply below_alloc | apply pw_below_drewN | apply below_drew1) | exact HB.out)) hb); clear HB; have HO600 := n0_; have HB := n1_; clear n0_ n1_; (try clear hb); (try clear hb2); (try clear hk); (try clear hi); (try clear ho0); obtain ⟨Ao29, co29, eo29⟩ := Kd.R_slice HO600.out; subst eo29) | ((with_reducible refine gate_builtin (b := .append) (xs := #[.tmp 34, .tmp 40]) rfl ?_); at_builtin; refine Kd.R_append_rows Kd.string (w0 := w) w.heap.size rfl (.tmp 34) (.tmp 40) 79 9 (.string ⟨#[]⟩) 16 rfl Try.underlying79 info9 rfl (by decide) (by omega) (.slice none 0 0) ([] : List ByteArray) t598 _ _ _ (fun k_ => some k_ ≠ (.slice Ao29 t598.length co29 : Value).ownBlock) (fun _ => False) rfl rfl ?aO ?aR (fun _ _ h => h) (fun _ h => h.elim) ?aF ?aB ?aS ?aL ?_; (case aR => repeat (first | exact (Kd.R_reads' HO600.out).2.2 | (with_reducible refine Kd.C_alloc ?_ _) | (with_reducible refine Kd.C_drewN ?_ _) | (with_reducible refine Kd.C_drew ?_))); (case aB => exact (by repeat (first | (with_reducible first | exact HB.out | apply below_alloc | apply pw_below_drewN | apply below_drew1) | exact HB.out))); (case aF => exact (fun k_ hk => Kd.fresh' (Kd.R_lt (by (with_reducible repeat (first | apply Kd.R_alloc | apply Kd.R_drewN | apply Kd.R_drew)); exact HO600.out)) k_ hk)); (case aO => exact ((Kd.R_nil _ _ _ _ (fun k_ => some k_ ≠ (.slice Ao29 t598.length co29 : Value).ownBlock)))); (case aS => exact (below_size (by repeat (first | (with_reducible first | exact HB.out | apply below_alloc | apply pw_below_drewN | apply below_drew1) | exact HB.out)))); (case aL => have := LMc26.out; omega); intro v602 w28 ho hb hg hat; rw [← Ny601.out] at ho; have n0_ := Aside0.mk (Kd.R_after (Kd.R_apart_nil (by (with_reducible repeat (first | apply Kd.R_alloc | apply Kd.R_drewN | apply Kd.R_drew)); exact HO600.out)) hg hat); have n1_ := Aside0.mk (hb); have n2_ := Aside0.mk (ho); clear HO600; clear HB; have HO600 := n0_; have HB := n1_; have HO603 := n2_; clear n0_ n1_ n2_; clear ho hb hg hat))
            go_ret
            exact ⟨_, by first | rfl | (simp [errW_none, errW_some] <;> rfl) | (simp [*, errW_none, errW_some] <;> rfl), by (with_reducible repeat (first | apply Kd.R_alloc | apply Kd.R_drewN | apply Kd.R_drew)); exact Kd.R_mono HO603.out (fun _ hk => trivial), by repeat (first | (with_reducible first | exact HB.out | apply below_alloc | apply pw_below_drewN | apply below_drew1) | exact HB.out)⟩
          · rw [if_neg c26] at H
            exact absurd H (by simp)
        · rw [if_neg c24] at H
          exact absurd H (by simp)
      · rw [if_neg c23] at H
        have c23b0 : decide (0 < a2) = false := decide_eq_false c23
        clear c23
        obtain rfl := Option.some.inj H
        go_enter Try.func63, Try.ntmps63
        go_wp2
        go_ret
        exact ⟨_, by first | rfl | (simp [errW_none, errW_some] <;> rfl) | (simp [*, errW_none, errW_some] <;> rfl), by first | exact Kd.R_nil _ _ _ _ _ | exact Kd.N_nil _ _ _ _ _ | exact Kd.V_nil _ _ _ _ _ | exact Kd.Q_nil _ _ _ _ _ | exact Kd.S_nil _ _ _ _ _, by repeat (first | (with_reducible first | exact HB.out | apply below_alloc | apply pw_below_drewN | apply below_drew1) | exact HB.out)⟩

end Go.Proofs.Ytjfkompfkgjdaaa.PC
