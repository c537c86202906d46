/- Parts of the proof of LawPlaitTurns, one behind the other: PCf47 PCf48 PCg4 PCf66 MShort HShort HWord PCf55 PCf21 HRep PCf59. -/
import Derived.Lib.SliceRun
import Derived.Laws.IdiomRangeMap
import Derived.WalkSpells
import Derived.Shelf.Strings.Repeat
import Derived.Test.YtjfkompfkgjdaaaJPlaitTurns2
section
namespace Go.Proofs.Ytjfkompfkgjdaaa.PC
open Go.RowKit Go.Proofs.YtjfkompfkgjdaaaW.PrintWords Go.Proofs.YtjfkompfkgjdaaaW.PrintLast Go.Proofs.YtjfkompfkgjdaaaW.PrintMore
attribute [local go_sem] max2_int min2_int max_two min_two max_three min_three max_four min_four   -- for this text's walks alone
set_option linter.unusedVariables false
set_option linter.unusedSimpArgs false
/-! ### pomaderef07_Turned: function 47 -/
def pomaderef07_Turned.l0 : Nat → List Int → Int → List Int → List Int → Int → Option (List Int × List Int × Int)
 | 0, _, _, _, _, _ => none
 | k + 1, x0, x6, x7, x8, x9 => if x9 < (wrap64 (2 * x6)) then (if (wrap64 (2 * x6)) = 0 then (none) else (if 0 ≤ x9 then (if x9 < (x0.length : Int) then (if 0 ≤ (Int.tmod (wrap64 (x9 + x6)) (wrap64 (2 * x6))) then (if (Int.tmod (wrap64 (x9 + x6)) (wrap64 (2 * x6))) < (x7.length : Int) then (if x6 = 0 then (none) else (if 0 ≤ (wrap64 ((wrap64 ((wrap64 ((wrap64 ((wrap64 (Int.tdiv x9 x6)) * x6)) + x6)) - 1)) - (Int.tmod x9 x6))) then (if (wrap64 ((wrap64 ((wrap64 ((wrap64 ((wrap64 (Int.tdiv x9 x6)) * x6)) + x6)) - 1)) - (Int.tmod x9 x6))) < (x8.length : Int) then (pomaderef07_Turned.l0 k x0 x6 (x7.set ((Int.tmod (wrap64 (x9 + x6)) (wrap64 (2 * x6))) : Int).toNat (Int.tmod (wrap64 ((rd x0 x9) + x6)) (wrap64 (2 * x6)))) (x8.set ((wrap64 ((wrap64 ((wrap64 ((wrap64 ((wrap64 (Int.tdiv x9 x6)) * x6)) + x6)) - 1)) - (Int.tmod x9 x6))) : Int).toNat (wrap64 ((wrap64 ((wrap64 ((wrap64 ((wrap64 (Int.tdiv (rd x0 x9) x6)) * x6)) + x6)) - 1)) - (Int.tmod (rd x0 x9) x6)))) (wrap64 (x9 + 1))) else (none)) else (none))) else (none)) else (none)) else (none)) else (none))) else (some (x7, x8, 0))
def pomaderef07_Turned.f (k : Nat) (l0 : List Int) : Option (List Int × List Int × Int) := (pomaderef07_Diagram.f k l0).bind fun t428 => (if t428 = 0 then (if 0 ≤ (wrap64 (2 * (wrap64 ((l0.length : Int) / 2)))) then (if (wrap64 (2 * (wrap64 ((l0.length : Int) / 2))) : Int).toNat ≤ 35184372088832 then (pomaderef07_Turned.l0 k l0 (wrap64 ((l0.length : Int) / 2)) (List.replicate (wrap64 (2 * (wrap64 ((l0.length : Int) / 2))) : Int).toNat 0) (List.replicate (wrap64 (2 * (wrap64 ((l0.length : Int) / 2))) : Int).toNat 0) 0) else (none)) else (none)) else (some (([] : List Int), ([] : List Int), t428)))
theorem pomaderef07_Turned.mono_l : ∀ k, (∀ y0 y1 y2 y3 y4, LeO (pomaderef07_Turned.l0 k y0 y1 y2 y3 y4) (pomaderef07_Turned.l0 (k + 1) y0 y1 y2 y3 y4))
 | 0 => fun _ _ _ _ _ r h => by simp [pomaderef07_Turned.l0] at h
 | k + 1 => by
  have ih0 := pomaderef07_Turned.mono_l k
  ·intro y0 y1 y2 y3 y4
   unfold pomaderef07_Turned.l0
   repeat' first
   | (with_reducible exact ih0 _ _ _ _ _)
   | (with_reducible exact pomaderef07_Diagram.mono _ _)
   | (with_reducible exact LeO.refl _)
   | (with_reducible exact LeO.none _)
   | (with_reducible refine LeO.ite ?_ ?_)
   | (with_reducible refine LeO.bind ?_ (fun _ => ?_))
   | exact ih0 _ _ _ _ _
   | exact pomaderef07_Diagram.mono _ _
   | exact LeO.none _
   | refine LeO.ite ?_ ?_
   | refine LeO.bind ?_ (fun _ => ?_)
theorem pomaderef07_Turned.mono : ∀ a0 k, LeO (pomaderef07_Turned.f k a0) (pomaderef07_Turned.f (k + 1) a0) := by
 intro a0 k
 have ih0 := pomaderef07_Turned.mono_l k
 unfold pomaderef07_Turned.f
 repeat' first
   | (with_reducible exact ih0 _ _ _ _ _)
   | (with_reducible exact pomaderef07_Diagram.mono _ _)
   | (with_reducible exact LeO.refl _)
   | (with_reducible exact LeO.none _)
   | (with_reducible refine LeO.ite ?_ ?_)
   | (with_reducible refine LeO.bind ?_ (fun _ => ?_))
   | exact ih0 _ _ _ _ _
   | exact pomaderef07_Diagram.mono _ _
   | exact LeO.none _
   | refine LeO.ite ?_ ?_
   | refine LeO.bind ?_ (fun _ => ?_)
def pomaderef07_Turned.T5 : Bool × List (List Nat × List Nat) := (true, [([], []), ([0], [0]), ([1, 1], [1]), ([], []), ([3], [3]), ([4, 4], [4]), ([2, 0, 1, 2], [2]), ([5, 6, 0, 1, 2, 3, 4, 5, 6], [5])])
def pomaderef07_Turned.B5 : List Nat := [0, 1, 3, 0, 8, 24, 7, 127]
theorem pomaderef07_Turned.tab5 : rtab .any (opsOf Try.f47 5) = pomaderef07_Turned.T5 := by kernel_rfl
theorem pomaderef07_Turned.bits5 : waitsOk pomaderef07_Turned.T5.2 pomaderef07_Turned.B5 = true := by kernel_rfl
def pomaderef07_Turned.T9 : Bool × List (List Nat × List Nat) := (true, [([], []), ([], []), ([], []), ([1, 2], [1, 2]), ([], []), ([4], [4]), ([3, 5], [3, 5]), ([], []), ([], []), ([7, 8], [7, 8]), ([9], [9]), ([], []), ([10, 11], [10, 11]), ([], []), ([13], [13]), ([12, 14], [12, 14]), ([0, 6, 0, 1, 2, 3, 4, 5, 6, 7, 8, 9, 10, 11, 12, 13, 14, 15], [0, 6]), ([16, 15, 0, 1, 2, 3, 4, 5, 6, 7, 8, 9, 10, 11, 12, 13, 14, 15], [15, 16])])
def pomaderef07_Turned.B9 : List Nat := [0, 0, 0, 6, 0, 16, 62, 0, 0, 384, 896, 0, 3968, 0, 8192, 32640, 65535, 131071]
theorem pomaderef07_Turned.tab9 : rtab .any (opsOf Try.f47 9) = pomaderef07_Turned.T9 := by kernel_rfl
theorem pomaderef07_Turned.bits9 : waitsOk pomaderef07_Turned.T9.2 pomaderef07_Turned.B9 = true := by kernel_rfl
def pomaderef07_Turned.T10 : Bool × List (List Nat × List Nat) := (true, [([], []), ([], []), ([], []), ([1, 2], [1, 2]), ([], []), ([3, 4], [3, 4]), ([], []), ([5, 6], [5, 6]), ([7], [7]), ([], []), ([], []), ([9, 10], [9, 10]), ([8, 11], [8, 11]), ([], []), ([], []), ([13, 14], [13, 14]), ([15], [15]), ([], []), ([16, 17], [16, 17]), ([], []), ([18, 19], [18, 19]), ([], []), ([20, 21], [20, 21]), ([22], [22]), ([], []), ([], []), ([24, 25], [24, 25]), ([26], [26]), ([], []), ([27, 28], [27, 28]), ([23, 29], [23, 29]), ([0, 12, 0, 1, 2, 3, 4, 5, 6, 7, 8, 9, 10, 11, 12, 13, 14, 15, 16, 17, 18, 19, 20, 21, 22, 23, 24, 25, 26, 27, 28, 29, 30], [0, 12]), ([31, 30, 0, 1, 2, 3, 4, 5, 6, 7, 8, 9, 10, 11, 12, 13, 14, 15, 16, 17, 18, 19, 20, 21, 22, 23, 24, 25, 26, 27, 28, 29, 30], [30, 31])])
def pomaderef07_Turned.B10 : List Nat := [0, 0, 0, 6, 0, 30, 0, 126, 254, 0, 0, 1536, 4094, 0, 0, 24576, 57344, 0, 253952, 0, 1040384, 0, 4186112, 8380416, 0, 0, 50331648, 117440512, 0, 520093696, 1073733632, 2147483647, 4294967295]
theorem pomaderef07_Turned.tab10 : rtab .any (opsOf Try.f47 10) = pomaderef07_Turned.T10 := by kernel_rfl
theorem pomaderef07_Turned.bits10 : waitsOk pomaderef07_Turned.T10.2 pomaderef07_Turned.B10 = true := by kernel_rfl
set_option maxHeartbeats 8000000 in
set_option maxRecDepth 100000 in
theorem pomaderef07_Turned.calls (k : Nat) (A0 : Option Addr) (c0 : Nat) (l0 : List Int) (r1 : List Int) (r2 : List Int) (r3 : Int) (w : World) (hr0 : Kd.C (Kd.int .i64) w A0 l0.length l0) (hc0 : l0.length ≤ c0) (h : pomaderef07_Turned.f k l0 = some (r1, r2, r3)) :
  Calls Try.prog 47 #[.slice A0 l0.length c0] w fun e w' => ∃ v0_ v1_ : Value, e = .returned (.tuple #[v0_, v1_, .int .i64 r3]) ∧ Kd.R (Kd.int .i64) 3 w' w.heap.size (fun k_ => some k_ ≠ (v1_ : Value).ownBlock) v0_ r1 ∧ Kd.R (Kd.int .i64) 3 w' w.heap.size (fun k_ => some k_ ≠ (v0_ : Value).ownBlock) v1_ r2 ∧ Below w.heap.size w w' := by
 have HR0 := Aside0.mk hr0
 have HC0 := Aside0.mk hc0
 clear hr0 hc0
 have HB := Aside0.mk (Below.refl w.heap.size w)
 have H : ((pomaderef07_Diagram.f k l0).bind fun t428 => (if t428 = 0 then (if 0 ≤ (wrap64 (2 * (wrap64 ((l0.length : Int) / 2)))) then (if (wrap64 (2 * (wrap64 ((l0.length : Int) / 2))) : Int).toNat ≤ 35184372088832 then (pomaderef07_Turned.l0 k l0 (wrap64 ((l0.length : Int) / 2)) (List.replicate (wrap64 (2 * (wrap64 ((l0.length : Int) / 2))) : Int).toNat 0) (List.replicate (wrap64 (2 * (wrap64 ((l0.length : Int) / 2))) : Int).toNat 0) 0) else (none)) else (none)) else (some (([] : List Int), ([] : List Int), t428)))) = some (r1, r2, r3) := h
 clear h
 replace H := Option.bind_eq_some_iff.mp H
 obtain ⟨t428, A20, H⟩ := H
 replace H : (if t428 = 0 then (if 0 ≤ (wrap64 (2 * (wrap64 ((l0.length : Int) / 2)))) then (if (wrap64 (2 * (wrap64 ((l0.length : Int) / 2))) : Int).toNat ≤ 35184372088832 then (pomaderef07_Turned.l0 k l0 (wrap64 ((l0.length : Int) / 2)) (List.replicate (wrap64 (2 * (wrap64 ((l0.length : Int) / 2))) : Int).toNat 0) (List.replicate (wrap64 (2 * (wrap64 ((l0.length : Int) / 2))) : Int).toNat 0) 0) else (none)) else (none)) else (some (([] : List Int), ([] : List Int), t428))) = some (r1, r2, r3) := H
 have A2 := Aside0.mk A20
 clear A20
 by_cases c3 : t428 = 0
 ·rw [if_pos c3] at H
  have c3b0 : (t428 == 0) = true := beq_iff_eq.mpr c3
  have c3b1 : (t428 != 0) = false := bne_eq_false_iff_eq.mpr c3
  clear c3
  obtain ⟨ji4, hji4⟩ : ∃ j_ : Int, (wrap64 (2 * (wrap64 ((l0.length : Int) / 2)))) = j_ := ⟨_, rfl⟩
  replace H : (if 0 ≤ (ji4) then (if (ji4 : Int).toNat ≤ 35184372088832 then (pomaderef07_Turned.l0 k l0 (wrap64 ((l0.length : Int) / 2)) (List.replicate (ji4 : Int).toNat 0) (List.replicate (ji4 : Int).toNat 0) 0) else (none)) else (none)) = some (r1, r2, r3) := by first | (rw [hji4] at H; exact H) | (simp only [hji4] at H ⊢; exact H)
  (try rw [hji4] at A2)
  have hji4w : (IntKind.i64.wrap (2 * (wrap64 ((l0.length : Int) / 2)))) = ji4 := (i64_w _).trans hji4
  by_cases c5 : 0 ≤ (ji4)
  ·rw [if_pos c5] at H
   have c5b0 := eq_true c5
   have c5b1 : decide (0 ≤ (ji4)) = true := decide_eq_true c5
   clear c5
   by_cases c6 : (ji4 : Int).toNat ≤ 35184372088832
   ·rw [if_pos c6] at H
    have c6b0 := eq_true c6
    have c6b1 : decide ((ji4 : Int).toNat ≤ 35184372088832) = true := decide_eq_true c6
    clear c6
    obtain ⟨y429, hy429⟩ : ∃ y_ : List Int, y_ = (List.replicate (ji4 : Int).toNat 0) := ⟨_, rfl⟩
    replace H : (pomaderef07_Turned.l0 k l0 (wrap64 ((l0.length : Int) / 2)) y429 (List.replicate (ji4 : Int).toNat 0) 0) = some (r1, r2, r3) := by first | (rw [hy429]; with_reducible exact H) | (have H2_ := (Option.bind_some _ _).symm.trans H; rw [hy429]; with_reducible exact H2_) | (have H2_ := (Option.bind_some _ _).symm.trans H; with_reducible exact H2_) | with_reducible exact H | (rw [hy429]; exact H) | exact H
    have Ny429 := Aside0.mk hy429
    clear hy429
    obtain ⟨y432, hy432⟩ : ∃ y_ : List Int, y_ = (List.replicate (ji4 : Int).toNat 0) := ⟨_, rfl⟩
    replace H : (pomaderef07_Turned.l0 k l0 (wrap64 ((l0.length : Int) / 2)) y429 y432 0) = some (r1, r2, r3) := by first | (rw [hy432]; with_reducible exact H) | (have H2_ := (Option.bind_some _ _).symm.trans H; rw [hy432]; with_reducible exact H2_) | (have H2_ := (Option.bind_some _ _).symm.trans H; with_reducible exact H2_) | with_reducible exact H | (rw [hy432]; exact H) | exact H
    have Ny432 := Aside0.mk hy432
    clear hy432
    have H' := Aside0.mk H
    clear H
    go_enter Try.func47, Try.ntmps47
    try go_wp2_with (first | ((with_reducible refine gate_callee (f := 19) rfl ?_); refine goesL_ (some 11) rfl rfl Try.func19 (by kernel_rfl) rfl #[.slice A0 l0.length c0] rfl (by (try simp only [List.map_toArray, List.map_cons, List.map_nil]); first | done | rfl | (simp only [List.length_drop, List.length_take]; rfl)) ?_; (with_reducible refine (pomaderef07_Diagram.calls k _ _ l0 t428 _ ?side1 ?side2 A2.out).mono ?_); (case side1 => repeat (first | exact HR0.out | (with_reducible refine Kd.C_alloc ?_ _) | (with_reducible refine Kd.C_drewN ?_ _) | (with_reducible refine Kd.C_drew ?_))); (case side2 => exact HC0.out); rintro e w' ⟨rfl, ⟨nd, rfl⟩⟩; refine ⟨_, rfl, ?_⟩))
    have n0_ := Aside0.mk (below_drew1 (pw_below_drewN HB.out nd))
    clear HB
    have HB := n0_
    clear n0_
    refine start_ (n := 8) (S := fun w' => True) (ds := []) #[false, false, false, false, false, false, false, false] (by kernel_rfl) rfl rfl trivial (fun hHeld => ?_); refine with_tabW pomaderef07_Turned.tab5 pomaderef07_Turned.bits5 (fun HT_ HW_ => ?_)
    first | generalize (w.drewN nd).drew = w7 at HB hHeld ⊢ | generalize w.drew = w7 at HB hHeld ⊢
    refine pure_ (i := 0) (N := some 18) (v := ?_) (a' := ?_) #[true, false, false, false, false, false, false, false] rfl rfl (any_of HT_.out (by kernel_rfl)) (fun _ _ _ h => h) (Or.inl ⟨by rfl, ?_⟩) ?_ ?_
    rotate_left
    ·intro w'
     go_simp
     with_reducible rfl
    rotate_left
    ·simp only [Act.put, List.setIfInBounds_toArray, List.set_cons_zero, List.set_cons_succ, i64_w, i32_w]
     rfl
    refine pure_ (i := 1) (N := some 19) (v := ?_) (a' := ?_) #[true, true, false, false, false, false, false, false] rfl rfl (any_of HT_.out (by kernel_rfl)) (fun _ _ _ h => h) (Or.inl ⟨by rfl, ?_⟩) ?_ ?_
    rotate_left
    ·intro w'
     go_simp
     with_reducible rfl
    rotate_left
    ·simp only [Act.put, List.setIfInBounds_toArray, List.set_cons_zero, List.set_cons_succ, i64_w, i32_w]
     rfl
    refine pure_ (i := 3) (N := some 21) (v := ?_) (a' := ?_) #[true, true, false, true, false, false, false, false] rfl rfl (any_of HT_.out (by kernel_rfl)) (fun _ _ _ h => h) (Or.inl ⟨by rfl, ?_⟩) ?_ ?_
    rotate_left
    ·intro w'
     go_simp
     with_reducible rfl
    rotate_left
    ·simp only [Act.put, List.setIfInBounds_toArray, List.set_cons_zero, List.set_cons_succ, i64_w, i32_w]
     rfl
    refine pure_ (i := 4) (N := some 22) (v := ?_) (a' := ?_) #[true, true, false, true, true, false, false, false] rfl rfl (any_of HT_.out (by kernel_rfl)) (fun _ _ _ h => h) (Or.inl ⟨by rfl, ?_⟩) ?_ ?_
    rotate_left
    ·intro w'
     go_simp
     with_reducible rfl
    rotate_left
    ·simp only [Act.put, List.setIfInBounds_toArray, List.set_cons_zero, List.set_cons_succ, i64_w, i32_w]
     rfl
    refine join_ (σ := Value × Value) 1 #[true, true, true, true, true, true, true, false] (fun s_ => [(20, s_.1), (23, s_.2), (7, s_.1)]) (fun s_ w' => (Kd.R (Kd.int .i64) 3 w' w.heap.size (fun k_ => some k_ ≠ (s_.2 : Value).ownBlock) s_.1 y429) ∧ (Kd.R (Kd.int .i64) 3 w' w.heap.size (fun k_ => some k_ ≠ (s_.1 : Value).ownBlock) s_.2 y432) ∧ (Below w.heap.size w w')) ?_ ?_
    rotate_left
    ·intro hCont
     refine two_ (i := 2) (j := 5) (Ni := some 20) (Nj := some 23) #[true, true, true, true, true, false, false, false] #[true, true, false, true, true, true, false, false] rfl rfl rfl rfl (two_of HT_.out (by kernel_rfl)) (by decide) (by decide) (fun K hK => ?_) (fun K hK => ?_)
     ·skip
      refine Kd.R_make_step (Kd.int .i64) _ 3 (by rfl) (N := 20) rfl 22 _ _ rfl ji4 rfl rfl Try.underlying22 (.int .i64 0) 8 info3 rfl (by decide) (by omega) 0 (ok := fun _ => True) (okp := fun _ => True) rfl (fun _ hk => hk) trivial (of_decide_eq_true (by first | (with_reducible assumption) | assumption)) (Nat.le_trans (Nat.mul_le_mul_right _ (of_decide_eq_true (by first | (with_reducible assumption) | assumption) : ji4.toNat ≤ 35184372088832)) (by omega)) (Below.refl _ _) (Nat.le_refl _) ?_
      intro v430 w8 ho9 hb hg_ hnew_
      clear hg_ hnew_
      (first | rw [← Ny429.out] at ho9 | (simp only [Int.reduceToNat] at ho9; rw [← Ny429.out] at ho9))
      have n0_ := Aside0.mk (Kd.R_lower ho9 (below_size (by repeat (first | (with_reducible first | exact HB.out | apply below_alloc | apply pw_below_drewN | apply below_drew1) | exact HB.out))))
      have n1_ := Aside0.mk (below_step (by repeat (first | (with_reducible first | exact HB.out | apply below_alloc | apply pw_below_drewN | apply below_drew1) | exact HB.out)) hb)
      clear HB
      have HO431 := n0_
      have HB := n1_
      clear n0_ n1_
      clear hb ho9
      refine hK.out _ _ trivial (fun hHeld => ?_)
      clear hK K
      refine norm_ (a' := ?_) ?_ ?_
      rotate_left
      ·show Act.put _ (some 20) _ = _
       simp only [Act.put, List.setIfInBounds_toArray, List.set_cons_zero, List.set_cons_succ, i64_w, i32_w]
       rfl
      refine pure_ (i := 6) (N := some 7) (v := ?_) (a' := ?_) #[true, true, true, true, true, false, true, false] rfl rfl (any_of HT_.out (by kernel_rfl)) (fun _ _ _ h => h) (Or.inl ⟨by rfl, ?_⟩) ?_ ?_
      rotate_left
      ·intro w'
       go_simp
       with_reducible rfl
      rotate_left
      ·simp only [Act.put, List.setIfInBounds_toArray, List.set_cons_zero, List.set_cons_succ, i64_w, i32_w]
       rfl
      refine one_ (i := 5) (N := some 23) #[true, true, true, true, true, true, true, false] rfl rfl (one_of HT_.out (by kernel_rfl)) (by decide) (fun K hK => ?_)
      refine Kd.R_make_step (Kd.int .i64) _ 3 (by rfl) (N := 23) rfl 22 _ _ rfl ji4 rfl rfl Try.underlying22 (.int .i64 0) 8 info3 rfl (by decide) (by omega) 0 (ok := fun _ => True) (okp := fun _ => True) rfl (fun _ hk => hk) trivial (of_decide_eq_true (by first | (with_reducible assumption) | assumption)) (Nat.le_trans (Nat.mul_le_mul_right _ (of_decide_eq_true (by first | (with_reducible assumption) | assumption) : ji4.toNat ≤ 35184372088832)) (by omega)) (Below.refl _ _) (Nat.le_refl _) ?_
      intro v433 w10 ho11 hb hg_ hnew_
      clear hg_ hnew_
      (first | rw [← Ny432.out] at ho11 | (simp only [Int.reduceToNat] at ho11; rw [← Ny432.out] at ho11))
      have n0_ := Aside0.mk (Kd.R_elder' (by (with_reducible repeat (first | apply Kd.R_alloc | apply Kd.R_drewN | apply Kd.R_drew)); exact HO431.out) (Kd.R_base ho11) hb)
      have n1_ := Aside0.mk (Kd.R_lower (Kd.R_new' ho11 (Kd.R_lt (by (with_reducible repeat (first | apply Kd.R_alloc | apply Kd.R_drewN | apply Kd.R_drew)); exact HO431.out))) (below_size (by repeat (first | (with_reducible first | exact HB.out | apply below_alloc | apply pw_below_drewN | apply below_drew1) | exact HB.out))))
      have n2_ := Aside0.mk (below_step (by repeat (first | (with_reducible first | exact HB.out | apply below_alloc | apply pw_below_drewN | apply below_drew1) | exact HB.out)) hb)
      clear HO431
      clear HB
      have HO431 := n0_
      have HO434 := n1_
      have HB := n2_
      clear n0_ n1_ n2_
      clear hb ho11
      refine hK.out _ _ trivial (fun hHeld => ?_)
      clear hK K
      refine norm_ (a' := ?_) ?_ ?_
      rotate_left
      ·show Act.put _ (some 23) _ = _
       simp only [Act.put, List.setIfInBounds_toArray, List.set_cons_zero, List.set_cons_succ, i64_w, i32_w]
       rfl
      exact norm_ (by simp only [putAll, Act.put, List.setIfInBounds_toArray, List.set_cons_zero, List.set_cons_succ]) (hCont (v430, v433) _ ⟨(by (with_reducible repeat (first | apply Kd.R_alloc | apply Kd.R_drewN | apply Kd.R_drew)); exact Kd.R_mono HO431.out (fun _ hk => hk.2)), (by (with_reducible repeat (first | apply Kd.R_alloc | apply Kd.R_drewN | apply Kd.R_drew)); exact Kd.R_mono HO434.out (fun _ hk => hk.2)), (by repeat (first | (with_reducible first | exact HB.out | apply below_alloc | apply pw_below_drewN | apply below_drew1) | exact HB.out))⟩)
     ·skip
      refine Kd.R_make_step (Kd.int .i64) _ 3 (by rfl) (N := 23) rfl 22 _ _ rfl ji4 rfl rfl Try.underlying22 (.int .i64 0) 8 info3 rfl (by decide) (by omega) 0 (ok := fun _ => True) (okp := fun _ => True) rfl (fun _ hk => hk) trivial (of_decide_eq_true (by first | (with_reducible assumption) | assumption)) (Nat.le_trans (Nat.mul_le_mul_right _ (of_decide_eq_true (by first | (with_reducible assumption) | assumption) : ji4.toNat ≤ 35184372088832)) (by omega)) (Below.refl _ _) (Nat.le_refl _) ?_
      intro v433 w8 ho9 hb hg_ hnew_
      clear hg_ hnew_
      (first | rw [← Ny432.out] at ho9 | (simp only [Int.reduceToNat] at ho9; rw [← Ny432.out] at ho9))
      have n0_ := Aside0.mk (Kd.R_lower ho9 (below_size (by repeat (first | (with_reducible first | exact HB.out | apply below_alloc | apply pw_below_drewN | apply below_drew1) | exact HB.out))))
      have n1_ := Aside0.mk (below_step (by repeat (first | (with_reducible first | exact HB.out | apply below_alloc | apply pw_below_drewN | apply below_drew1) | exact HB.out)) hb)
      clear HB
      have HO434 := n0_
      have HB := n1_
      clear n0_ n1_
      clear hb ho9
      refine hK.out _ _ trivial (fun hHeld => ?_)
      clear hK K
      refine norm_ (a' := ?_) ?_ ?_
      rotate_left
      ·show Act.put _ (some 23) _ = _
       simp only [Act.put, List.setIfInBounds_toArray, List.set_cons_zero, List.set_cons_succ, i64_w, i32_w]
       rfl
      refine one_ (i := 2) (N := some 20) #[true, true, true, true, true, true, false, false] rfl rfl (one_of HT_.out (by kernel_rfl)) (by decide) (fun K hK => ?_)
      refine Kd.R_make_step (Kd.int .i64) _ 3 (by rfl) (N := 20) rfl 22 _ _ rfl ji4 rfl rfl Try.underlying22 (.int .i64 0) 8 info3 rfl (by decide) (by omega) 0 (ok := fun _ => True) (okp := fun _ => True) rfl (fun _ hk => hk) trivial (of_decide_eq_true (by first | (with_reducible assumption) | assumption)) (Nat.le_trans (Nat.mul_le_mul_right _ (of_decide_eq_true (by first | (with_reducible assumption) | assumption) : ji4.toNat ≤ 35184372088832)) (by omega)) (Below.refl _ _) (Nat.le_refl _) ?_
      intro v430 w10 ho11 hb hg_ hnew_
      clear hg_ hnew_
      (first | rw [← Ny429.out] at ho11 | (simp only [Int.reduceToNat] at ho11; rw [← Ny429.out] at ho11))
      have n0_ := Aside0.mk (Kd.R_elder' (by (with_reducible repeat (first | apply Kd.R_alloc | apply Kd.R_drewN | apply Kd.R_drew)); exact HO434.out) (Kd.R_base ho11) hb)
      have n1_ := Aside0.mk (Kd.R_lower (Kd.R_new' ho11 (Kd.R_lt (by (with_reducible repeat (first | apply Kd.R_alloc | apply Kd.R_drewN | apply Kd.R_drew)); exact HO434.out))) (below_size (by repeat (first | (with_reducible first | exact HB.out | apply below_alloc | apply pw_below_drewN | apply below_drew1) | exact HB.out))))
      have n2_ := Aside0.mk (below_step (by repeat (first | (with_reducible first | exact HB.out | apply below_alloc | apply pw_below_drewN | apply below_drew1) | exact HB.out)) hb)
      clear HO434
      clear HB
      have HO434 := n0_
      have HO431 := n1_
      have HB := n2_
      clear n0_ n1_ n2_
      clear hb ho11
      refine hK.out _ _ trivial (fun hHeld => ?_)
      clear hK K
      refine norm_ (a' := ?_) ?_ ?_
      rotate_left
      ·show Act.put _ (some 20) _ = _
       simp only [Act.put, List.setIfInBounds_toArray, List.set_cons_zero, List.set_cons_succ, i64_w, i32_w]
       rfl
      refine pure_ (i := 6) (N := some 7) (v := ?_) (a' := ?_) #[true, true, true, true, true, true, true, false] rfl rfl (any_of HT_.out (by kernel_rfl)) (fun _ _ _ h => h) (Or.inl ⟨by rfl, ?_⟩) ?_ ?_
      rotate_left
      ·intro w'
       go_simp
       with_reducible rfl
      rotate_left
      ·simp only [Act.put, List.setIfInBounds_toArray, List.set_cons_zero, List.set_cons_succ, i64_w, i32_w]
       rfl
      exact norm_ (by simp only [putAll, Act.put, List.setIfInBounds_toArray, List.set_cons_zero, List.set_cons_succ]) (hCont (v430, v433) _ ⟨(by (with_reducible repeat (first | apply Kd.R_alloc | apply Kd.R_drewN | apply Kd.R_drew)); exact Kd.R_mono HO431.out (fun _ hk => hk.2)), (by (with_reducible repeat (first | apply Kd.R_alloc | apply Kd.R_drewN | apply Kd.R_drew)); exact Kd.R_mono HO434.out (fun _ hk => hk.2)), (by repeat (first | (with_reducible first | exact HB.out | apply below_alloc | apply pw_below_drewN | apply below_drew1) | exact HB.out))⟩)
    rintro ⟨v430, v433⟩ w12 ⟨h0_, h1_, h2_⟩
    have n0_ : Aside0 (Kd.R (Kd.int .i64) 3 w12 w.heap.size (fun k_ => some k_ ≠ (v433 : Value).ownBlock) v430 y429) := ⟨h0_⟩
    have n1_ : Aside0 (Kd.R (Kd.int .i64) 3 w12 w.heap.size (fun k_ => some k_ ≠ (v430 : Value).ownBlock) v433 y432) := ⟨h1_⟩
    have n2_ : Aside0 (Below w.heap.size w w12) := ⟨h2_⟩
    clear HB
    clear h0_ h1_ h2_
    have HO431 := n0_
    have HO434 := n1_
    have HB := n2_
    clear n0_ n1_ n2_
    have hHeld := trivial
    refine norm_ (a' := ?_) ?_ ?_
    rotate_left
    ·simp only [putAll, Act.put, List.setIfInBounds_toArray, List.set_cons_zero, List.set_cons_succ]
     rfl
    refine pure_ (i := 7) (N := some 8) (v := ?_) (a' := ?_) #[true, true, true, true, true, true, true, true] rfl rfl (any_of HT_.out (by kernel_rfl)) (fun _ _ _ h => h) (Or.inl ⟨by rfl, ?_⟩) ?_ ?_
    rotate_left
    ·intro w'
     go_simp
     with_reducible rfl
    rotate_left
    ·simp only [Act.put, List.setIfInBounds_toArray, List.set_cons_zero, List.set_cons_succ, i64_w, i32_w]
     rfl
    refine done_ (done_of HT_.out (by kernel_rfl)) ?_
    try go_wp2
    go_loopg [9] k (fun kq v9 w' => ∃ (x7_1 : List Int) (x8_1 : List Int) (x9_1 : Int), v9 = .int .i64 x9_1 ∧ Aside0 (pomaderef07_Turned.l0 kq l0 (wrap64 ((l0.length : Int) / 2)) x7_1 x8_1 x9_1 = some (r1, r2, r3)) ∧ Aside0 (kq ≤ k) ∧ Aside0 (Kd.R (Kd.int .i64) 3 w' w.heap.size (fun k_ => some k_ ≠ (v433 : Value).ownBlock) v430 x7_1) ∧ Aside0 (Kd.R (Kd.int .i64) 3 w' w.heap.size (fun k_ => some k_ ≠ (v430 : Value).ownBlock) v433 x8_1) ∧ Aside0 (Below w.heap.size w w'))
    case atStart => exact ⟨(y429), (y432), (0), (by first | rfl | (simp; done) | (simp [*]; done)), H', ⟨Nat.le_refl _⟩, ⟨by (with_reducible repeat (first | apply Kd.R_alloc | apply Kd.R_drewN | apply Kd.R_drew)); exact HO431.out⟩, ⟨by (with_reducible repeat (first | apply Kd.R_alloc | apply Kd.R_drewN | apply Kd.R_drew)); exact HO434.out⟩, ⟨by repeat (first | (with_reducible first | exact HB.out | apply below_alloc | apply pw_below_drewN | apply below_drew1) | exact HB.out)⟩⟩
    case round =>
     clear H'
     try clear c1
     try clear p2
     try clear c3
     try clear c3b0
     try clear c3b1
     try clear c4
     try clear c5
     try clear c5b0
     try clear c5b1
     try clear c6
     try clear c6b0
     try clear c6b1
     try clear p6
     obtain ⟨x7_1, x8_1, x9_1, rfl, HA, HK1, HO_7, HO_8, HB⟩ := hrel
     cases gk with
     | zero => exact absurd HA.out (by simp [pomaderef07_Turned.l0])
     | succ k1 =>
      have H := HA.out
      clear HA
      simp only [pomaderef07_Turned.l0] at H
      by_cases c13 : x9_1 < (wrap64 (2 * (wrap64 ((l0.length : Int) / 2))))
      ·rw [if_pos c13] at H
       have c13b0 : decide (x9_1 < (wrap64 (2 * (wrap64 ((l0.length : Int) / 2))))) = true := decide_eq_true c13
       (try simp only [hji4] at c13b0)
       clear c13
       by_cases c14 : (wrap64 (2 * (wrap64 ((l0.length : Int) / 2)))) = 0
       ·rw [if_pos c14] at H
        exact absurd H (by simp)
       ·rw [if_neg c14] at H
        have c14b0 : ((wrap64 (2 * (wrap64 ((l0.length : Int) / 2)))) == 0) = false := beq_eq_false_iff_ne.mpr c14
        (try have c14n : ¬ (ji4 = 0) := fun e_ => c14 (hji4.trans e_))
        (try simp only [hji4] at c14b0)
        have c14b1 : ((wrap64 (2 * (wrap64 ((l0.length : Int) / 2)))) != 0) = true := bne_iff_ne.mpr c14
        (try simp only [hji4] at c14b1)
        by_cases c15 : 0 ≤ x9_1
        ·rw [if_pos c15] at H
         have c15b0 : decide (0 ≤ x9_1) = true := decide_eq_true c15
         clear c15
         by_cases c16 : x9_1 < (l0.length : Int)
         ·rw [if_pos c16] at H
          have c16b0 : decide (x9_1 < (l0.length : Int)) = true := decide_eq_true c16
          clear c16
          obtain ⟨ji17, hji17⟩ : ∃ j_ : Int, (Int.tmod (wrap64 (x9_1 + (wrap64 ((l0.length : Int) / 2)))) (wrap64 (2 * (wrap64 ((l0.length : Int) / 2))))) = j_ := ⟨_, rfl⟩
          have hji17n := hji17
          (try simp only [hji4] at hji17n)
          replace H : (if 0 ≤ (ji17) then (if (ji17) < (x7_1.length : Int) then (if (wrap64 ((l0.length : Int) / 2)) = 0 then (none) else (if 0 ≤ (wrap64 ((wrap64 ((wrap64 ((wrap64 ((wrap64 (Int.tdiv x9_1 (wrap64 ((l0.length : Int) / 2)))) * (wrap64 ((l0.length : Int) / 2)))) + (wrap64 ((l0.length : Int) / 2)))) - 1)) - (Int.tmod x9_1 (wrap64 ((l0.length : Int) / 2))))) then (if (wrap64 ((wrap64 ((wrap64 ((wrap64 ((wrap64 (Int.tdiv x9_1 (wrap64 ((l0.length : Int) / 2)))) * (wrap64 ((l0.length : Int) / 2)))) + (wrap64 ((l0.length : Int) / 2)))) - 1)) - (Int.tmod x9_1 (wrap64 ((l0.length : Int) / 2))))) < (x8_1.length : Int) then (pomaderef07_Turned.l0 k1 l0 (wrap64 ((l0.length : Int) / 2)) (x7_1.set ((ji17) : Int).toNat (Int.tmod (wrap64 ((rd l0 x9_1) + (wrap64 ((l0.length : Int) / 2)))) (wrap64 (2 * (wrap64 ((l0.length : Int) / 2)))))) (x8_1.set ((wrap64 ((wrap64 ((wrap64 ((wrap64 ((wrap64 (Int.tdiv x9_1 (wrap64 ((l0.length : Int) / 2)))) * (wrap64 ((l0.length : Int) / 2)))) + (wrap64 ((l0.length : Int) / 2)))) - 1)) - (Int.tmod x9_1 (wrap64 ((l0.length : Int) / 2))))) : Int).toNat (wrap64 ((wrap64 ((wrap64 ((wrap64 ((wrap64 (Int.tdiv (rd l0 x9_1) (wrap64 ((l0.length : Int) / 2)))) * (wrap64 ((l0.length : Int) / 2)))) + (wrap64 ((l0.length : Int) / 2)))) - 1)) - (Int.tmod (rd l0 x9_1) (wrap64 ((l0.length : Int) / 2)))))) (wrap64 (x9_1 + 1))) else (none)) else (none))) else (none)) else (none)) = some (r1, r2, r3) := by first | (rw [hji17] at H; exact H) | (simp only [hji17] at H ⊢; exact H)
          by_cases c18 : 0 ≤ (ji17)
          ·rw [if_pos c18] at H
           have c18b0 : decide (0 ≤ (ji17)) = true := decide_eq_true c18
           clear c18
           by_cases c19 : (ji17) < (x7_1.length : Int)
           ·rw [if_pos c19] at H
            have c19b0 : decide ((ji17) < (x7_1.length : Int)) = true := decide_eq_true c19
            clear c19
            obtain ⟨y436, hy436⟩ : ∃ y_ : List Int, y_ = (x7_1.set ((ji17) : Int).toNat (Int.tmod (wrap64 ((rd l0 x9_1) + (wrap64 ((l0.length : Int) / 2)))) (wrap64 (2 * (wrap64 ((l0.length : Int) / 2)))))) := ⟨_, rfl⟩
            replace H : (if (wrap64 ((l0.length : Int) / 2)) = 0 then (none) else (if 0 ≤ (wrap64 ((wrap64 ((wrap64 ((wrap64 ((wrap64 (Int.tdiv x9_1 (wrap64 ((l0.length : Int) / 2)))) * (wrap64 ((l0.length : Int) / 2)))) + (wrap64 ((l0.length : Int) / 2)))) - 1)) - (Int.tmod x9_1 (wrap64 ((l0.length : Int) / 2))))) then (if (wrap64 ((wrap64 ((wrap64 ((wrap64 ((wrap64 (Int.tdiv x9_1 (wrap64 ((l0.length : Int) / 2)))) * (wrap64 ((l0.length : Int) / 2)))) + (wrap64 ((l0.length : Int) / 2)))) - 1)) - (Int.tmod x9_1 (wrap64 ((l0.length : Int) / 2))))) < (x8_1.length : Int) then (pomaderef07_Turned.l0 k1 l0 (wrap64 ((l0.length : Int) / 2)) y436 (x8_1.set ((wrap64 ((wrap64 ((wrap64 ((wrap64 ((wrap64 (Int.tdiv x9_1 (wrap64 ((l0.length : Int) / 2)))) * (wrap64 ((l0.length : Int) / 2)))) + (wrap64 ((l0.length : Int) / 2)))) - 1)) - (Int.tmod x9_1 (wrap64 ((l0.length : Int) / 2))))) : Int).toNat (wrap64 ((wrap64 ((wrap64 ((wrap64 ((wrap64 (Int.tdiv (rd l0 x9_1) (wrap64 ((l0.length : Int) / 2)))) * (wrap64 ((l0.length : Int) / 2)))) + (wrap64 ((l0.length : Int) / 2)))) - 1)) - (Int.tmod (rd l0 x9_1) (wrap64 ((l0.length : Int) / 2)))))) (wrap64 (x9_1 + 1))) else (none)) else (none))) = some (r1, r2, r3) := by first | (rw [hy436]; with_reducible exact H) | (have H2_ := (Option.bind_some _ _).symm.trans H; rw [hy436]; with_reducible exact H2_) | (have H2_ := (Option.bind_some _ _).symm.trans H; with_reducible exact H2_) | with_reducible exact H | (rw [hy436]; exact H) | exact H
            have Ny436 := Aside0.mk hy436
            clear hy436
            by_cases c21 : (wrap64 ((l0.length : Int) / 2)) = 0
            ·rw [if_pos c21] at H
             exact absurd H (by simp)
            ·rw [if_neg c21] at H
             have c21b0 : ((wrap64 ((l0.length : Int) / 2)) == 0) = false := beq_eq_false_iff_ne.mpr c21
             (try have c21n : ¬ (ji4 = 0) := fun e_ => c21 (hji4.trans e_))
             (try simp only [hji4] at c21b0)
             (try simp only [hji17] at c21b0)
             have c21b1 : ((wrap64 ((l0.length : Int) / 2)) != 0) = true := bne_iff_ne.mpr c21
             (try simp only [hji4] at c21b1)
             (try simp only [hji17] at c21b1)
             obtain ⟨ji22, hji22⟩ : ∃ j_ : Int, (wrap64 ((wrap64 ((wrap64 ((wrap64 ((wrap64 (Int.tdiv x9_1 (wrap64 ((l0.length : Int) / 2)))) * (wrap64 ((l0.length : Int) / 2)))) + (wrap64 ((l0.length : Int) / 2)))) - 1)) - (Int.tmod x9_1 (wrap64 ((l0.length : Int) / 2))))) = j_ := ⟨_, rfl⟩
             have hji22n := hji22
             (try simp only [hji4] at hji22n)
             replace H : (if 0 ≤ (ji22) then (if (ji22) < (x8_1.length : Int) then (pomaderef07_Turned.l0 k1 l0 (wrap64 ((l0.length : Int) / 2)) y436 (x8_1.set ((ji22) : Int).toNat (wrap64 ((wrap64 ((wrap64 ((wrap64 ((wrap64 (Int.tdiv (rd l0 x9_1) (wrap64 ((l0.length : Int) / 2)))) * (wrap64 ((l0.length : Int) / 2)))) + (wrap64 ((l0.length : Int) / 2)))) - 1)) - (Int.tmod (rd l0 x9_1) (wrap64 ((l0.length : Int) / 2)))))) (wrap64 (x9_1 + 1))) else (none)) else (none)) = some (r1, r2, r3) := by first | (rw [hji22] at H; exact H) | (simp only [hji22] at H ⊢; exact H)
             have hji22w : (IntKind.i64.wrap ((wrap64 ((wrap64 ((wrap64 ((wrap64 (Int.tdiv x9_1 (wrap64 ((l0.length : Int) / 2)))) * (wrap64 ((l0.length : Int) / 2)))) + (wrap64 ((l0.length : Int) / 2)))) - 1)) - (Int.tmod x9_1 (wrap64 ((l0.length : Int) / 2))))) = ji22 := (i64_w _).trans hji22
             (try simp only [hji4] at hji22)
             (try simp only [hji4] at hji22w)
             (try simp only [hji17] at hji22)
             (try simp only [hji17] at hji22w)
             by_cases c23 : 0 ≤ (ji22)
             ·rw [if_pos c23] at H
              have c23b0 : decide (0 ≤ (ji22)) = true := decide_eq_true c23
              clear c23
              by_cases c24 : (ji22) < (x8_1.length : Int)
              ·rw [if_pos c24] at H
               have c24b0 : decide ((ji22) < (x8_1.length : Int)) = true := decide_eq_true c24
               clear c24
               obtain ⟨y439, hy439⟩ : ∃ y_ : List Int, y_ = (x8_1.set ((ji22) : Int).toNat (wrap64 ((wrap64 ((wrap64 ((wrap64 ((wrap64 (Int.tdiv (rd l0 x9_1) (wrap64 ((l0.length : Int) / 2)))) * (wrap64 ((l0.length : Int) / 2)))) + (wrap64 ((l0.length : Int) / 2)))) - 1)) - (Int.tmod (rd l0 x9_1) (wrap64 ((l0.length : Int) / 2)))))) := ⟨_, rfl⟩
               replace H : (pomaderef07_Turned.l0 k1 l0 (wrap64 ((l0.length : Int) / 2)) y436 y439 (wrap64 (x9_1 + 1))) = some (r1, r2, r3) := by first | (rw [hy439]; with_reducible exact H) | (have H2_ := (Option.bind_some _ _).symm.trans H; rw [hy439]; with_reducible exact H2_) | (have H2_ := (Option.bind_some _ _).symm.trans H; with_reducible exact H2_) | with_reducible exact H | (rw [hy439]; exact H) | exact H
               have Ny439 := Aside0.mk hy439
               clear hy439
               have H' := Aside0.mk H
               clear H
               try go_wp2
               have n0_ := Aside0.mk (Kd.R_drew HO_7.out)
               have n1_ := Aside0.mk (Kd.R_drew HO_8.out)
               have n2_ := Aside0.mk (below_drew1 HB.out)
               clear HO_7
               clear HO_8
               clear HB
               have HO_7 := n0_
               have HO_8 := n1_
               have HB := n2_
               clear n0_ n1_ n2_
               have p435 : 0 ≤ (x9_1 : Int) := of_decide_eq_true (by first | (with_reducible assumption) | assumption)
               have q435 : x9_1 < (l0.length : Int) := of_decide_eq_true (by first | (with_reducible assumption) | assumption)
               obtain ⟨ad435, e435, hx435_0⟩ := Kd.at_int HR0.out x9_1 p435 q435
               have hw435_0 := hx435_0
               cases e435
               replace hx435_0 := (HB.out.cell (World.block_lt_of_cell? w _ hx435_0)).trans hx435_0
               replace p435 := eq_true p435
               replace q435 := eq_true q435
               have p20 : 0 ≤ ((ji17) : Int) := of_decide_eq_true (by first | (with_reducible assumption) | assumption)
               have q20 : ((ji17) : Int) < ((x7_1.length : Int) : Int) := of_decide_eq_true (by first | (with_reducible assumption) | assumption)
               obtain ⟨go20, co20, eo20, gb20, gl20, cl20, HG20⟩ := Kd.R_form HO_7.out (by omega)
               (first | cases eo20 | (injection eo20 with ea_ en_ ec_; (first | subst ea_ | (injection ea_ with ea_; subst ea_)); subst ec_; clear en_))
               (try simp only [add_plain] at *)
               have GB20 := Aside0.mk gb20
               have GG20 := Aside0.mk HG20
               clear gb20 gl20 HG20
               obtain ⟨hx20_0, hf20_0⟩ := Kd.R_celln 0 HO_7.out ((ji17) : Int) p20 q20
               replace p20 := eq_true p20
               replace q20 := eq_true q20
               have HP27 := Kd.R_putn HO_7.out ((ji17) : Int) (Int.tmod (wrap64 ((rd l0 x9_1) + (wrap64 ((l0.length : Int) / 2)))) (wrap64 (2 * (wrap64 ((l0.length : Int) / 2)))))
               rw [← Ny436.out] at HP27
               have HQ27 := Aside0.mk HP27
               clear HP27
               refine start_ (n := 18) (S := fun w' => w'.cell? (ad435.add (x9_1).toNat) = some (.int .i64 (rd l0 x9_1))) (ds := [17]) #[false, false, false, false, false, false, false, false, false, false, false, false, false, false, false, false, false, false] (by kernel_rfl) rfl rfl (((HB.out.cell (World.block_lt_of_cell? w _ hw435_0)).trans hw435_0)) (fun hHeld => ?_); refine with_tabW pomaderef07_Turned.tab9 pomaderef07_Turned.bits9 (fun HT_ HW_ => ?_)
               generalize wr.drew = w26 at HO_7 HO_8 HB GG20 HQ27 hf20_0 hx20_0 hx435_0 hHeld ⊢
               refine pure_ (i := 0) (N := some 30) (v := ?_) (a' := ?_) #[true, false, false, false, false, false, false, false, false, false, false, false, false, false, false, false, false, false] rfl rfl (any_of HT_.out (by kernel_rfl)) (fun _ _ _ h => h) (Or.inl ⟨by rfl, ?_⟩) ?_ ?_
               rotate_left
               ·intro w'
                go_simp
                with_reducible rfl
               rotate_left
               ·simp only [Act.put, List.setIfInBounds_toArray, List.set_cons_zero, List.set_cons_succ, i64_w, i32_w]
                rfl
               refine pure_ (i := 1) (N := some 31) (v := ?_) (a' := ?_) #[true, true, false, false, false, false, false, false, false, false, false, false, false, false, false, false, false, false] rfl rfl (any_of HT_.out (by kernel_rfl)) (fun _ _ _ h => h) (Or.inl ⟨by rfl, ?_⟩) ?_ ?_
               rotate_left
               ·intro w'
                go_simp
                with_reducible rfl
               rotate_left
               ·simp only [Act.put, List.setIfInBounds_toArray, List.set_cons_zero, List.set_cons_succ, i64_w, i32_w]
                rfl
               refine pure_ (i := 2) (N := some 32) (v := ?_) (a' := ?_) #[true, true, true, false, false, false, false, false, false, false, false, false, false, false, false, false, false, false] rfl rfl (any_of HT_.out (by kernel_rfl)) (fun _ _ _ h => h) (Or.inl ⟨by rfl, ?_⟩) ?_ ?_
               rotate_left
               ·intro w'
                go_simp
                with_reducible rfl
               rotate_left
               ·simp only [Act.put, List.setIfInBounds_toArray, List.set_cons_zero, List.set_cons_succ, i64_w, i32_w]
                rfl
               refine pure_ (i := 3) (N := some 33) (v := ?_) (a' := ?_) #[true, true, true, true, false, false, false, false, false, false, false, false, false, false, false, false, false, false] rfl rfl (any_of HT_.out (by kernel_rfl)) (fun _ _ _ h => h) (Or.inl ⟨by rfl, ?_⟩) ?_ ?_
               rotate_left
               ·intro w'
                go_simp
                with_reducible rfl
               rotate_left
               ·simp only [Act.put, List.setIfInBounds_toArray, List.set_cons_zero, List.set_cons_succ, i64_w, i32_w]
                rfl
               refine pure_ (i := 4) (N := some 34) (v := ?_) (a' := ?_) #[true, true, true, true, true, false, false, false, false, false, false, false, false, false, false, false, false, false] rfl rfl (any_of HT_.out (by kernel_rfl)) (fun _ _ _ h => h) (Or.inl ⟨by rfl, ?_⟩) ?_ ?_
               rotate_left
               ·intro w'
                go_simp
                with_reducible rfl
               rotate_left
               ·simp only [Act.put, List.setIfInBounds_toArray, List.set_cons_zero, List.set_cons_succ, i64_w, i32_w]
                rfl
               refine pure_ (i := 5) (N := some 35) (v := ?_) (a' := ?_) #[true, true, true, true, true, true, false, false, false, false, false, false, false, false, false, false, false, false] rfl rfl (any_of HT_.out (by kernel_rfl)) (fun _ _ _ h => h) (Or.inl ⟨by rfl, ?_⟩) ?_ ?_
               rotate_left
               ·intro w'
                go_simp
                with_reducible rfl
               rotate_left
               ·simp only [Act.put, List.setIfInBounds_toArray, List.set_cons_zero, List.set_cons_succ, i64_w, i32_w]
                rfl
               refine pure_ (i := 6) (N := some 36) (v := ?_) (a' := ?_) #[true, true, true, true, true, true, true, false, false, false, false, false, false, false, false, false, false, false] rfl rfl (any_of HT_.out (by kernel_rfl)) (fun _ _ _ h => h) (Or.inl ⟨by rfl, ?_⟩) ?_ ?_
               rotate_left
               ·intro w'
                go_simp
                with_reducible rfl
               rotate_left
               ·simp only [Act.put, List.setIfInBounds_toArray, List.set_cons_zero, List.set_cons_succ, i64_w, i32_w]
                rfl
               refine pure_ (i := 7) (N := some 37) (v := ?_) (a' := ?_) #[true, true, true, true, true, true, true, true, false, false, false, false, false, false, false, false, false, false] rfl rfl (any_of HT_.out (by kernel_rfl)) (fun _ _ _ h => h) (Or.inl ⟨by rfl, ?_⟩) ?_ ?_
               rotate_left
               ·intro w'
                go_simp
                with_reducible rfl
               rotate_left
               ·simp only [Act.put, List.setIfInBounds_toArray, List.set_cons_zero, List.set_cons_succ, i64_w, i32_w]
                rfl
               refine pure_ (i := 8) (N := some 38) (v := ?_) (a' := ?_) #[true, true, true, true, true, true, true, true, true, false, false, false, false, false, false, false, false, false] rfl rfl (any_of HT_.out (by kernel_rfl)) (fun _ _ _ h => h) (Or.inl ⟨by rfl, ?_⟩) ?_ ?_
               rotate_left
               ·intro w'
                go_simp
                with_reducible rfl
               rotate_left
               ·simp only [Act.put, List.setIfInBounds_toArray, List.set_cons_zero, List.set_cons_succ, i64_w, i32_w]
                rfl
               refine pure_ (i := 9) (N := some 39) (v := ?_) (a' := ?_) #[true, true, true, true, true, true, true, true, true, true, false, false, false, false, false, false, false, false] rfl rfl (any_of HT_.out (by kernel_rfl)) (fun _ _ _ h => h) (Or.inl ⟨by rfl, ?_⟩) ?_ ?_
               rotate_left
               ·intro w'
                go_simp
                with_reducible rfl
               rotate_left
               ·simp only [Act.put, List.setIfInBounds_toArray, List.set_cons_zero, List.set_cons_succ, i64_w, i32_w]
                rfl
               refine pure_ (i := 11) (N := some 41) (v := ?_) (a' := ?_) #[true, true, true, true, true, true, true, true, true, true, false, true, false, false, false, false, false, false] rfl rfl (any_of HT_.out (by kernel_rfl)) (fun _ _ _ h => h) (Or.inl ⟨by rfl, ?_⟩) ?_ ?_
               rotate_left
               ·intro w'
                go_simp
                with_reducible rfl
               rotate_left
               ·simp only [Act.put, List.setIfInBounds_toArray, List.set_cons_zero, List.set_cons_succ, i64_w, i32_w]
                rfl
               refine pure_ (i := 13) (N := some 43) (v := ?_) (a' := ?_) #[true, true, true, true, true, true, true, true, true, true, false, true, false, true, false, false, false, false] rfl rfl (any_of HT_.out (by kernel_rfl)) (fun _ _ _ h => h) (Or.inl ⟨by rfl, ?_⟩) ?_ ?_
               rotate_left
               ·intro w'
                go_simp
                with_reducible rfl
               rotate_left
               ·simp only [Act.put, List.setIfInBounds_toArray, List.set_cons_zero, List.set_cons_succ, i64_w, i32_w]
                rfl
               refine pure_ (i := 14) (N := some 44) (v := ?_) (a' := ?_) #[true, true, true, true, true, true, true, true, true, true, false, true, false, true, true, false, false, false] rfl rfl (any_of HT_.out (by kernel_rfl)) (fun _ _ _ h => h) (Or.inl ⟨by rfl, ?_⟩) ?_ ?_
               rotate_left
               ·intro w'
                go_simp
                with_reducible rfl
               rotate_left
               ·simp only [Act.put, List.setIfInBounds_toArray, List.set_cons_zero, List.set_cons_succ, i64_w, i32_w]
                rfl
               refine take_ (i := 10) (N := some 40) (v := ?_) (a' := ?_) #[true, true, true, true, true, true, true, true, true, true, true, true, false, true, true, false, false, false] rfl rfl (take_ofW HT_.out HW_.out (by kernel_rfl)) (fun _ _ _ h => h) (Or.inl ⟨by rfl, ?_⟩) hHeld ?_ ?_
               rotate_left
               ·intro w' s0
                go_simp
                with_reducible rfl
               rotate_left
               ·simp only [Act.put, List.setIfInBounds_toArray, List.set_cons_zero, List.set_cons_succ, i64_w, i32_w]
                rfl
               refine pure_ (i := 12) (N := some 42) (v := ?_) (a' := ?_) #[true, true, true, true, true, true, true, true, true, true, true, true, true, true, true, false, false, false] rfl rfl (any_of HT_.out (by kernel_rfl)) (fun _ _ _ h => h) (Or.inl ⟨by rfl, ?_⟩) ?_ ?_
               rotate_left
               ·intro w'
                go_simp
                with_reducible rfl
               rotate_left
               ·simp only [Act.put, List.setIfInBounds_toArray, List.set_cons_zero, List.set_cons_succ, i64_w, i32_w]
                rfl
               refine pure_ (i := 15) (N := some 45) (v := ?_) (a' := ?_) #[true, true, true, true, true, true, true, true, true, true, true, true, true, true, true, true, false, false] rfl rfl (any_of HT_.out (by kernel_rfl)) (fun _ _ _ h => h) (Or.inl ⟨by rfl, ?_⟩) ?_ ?_
               rotate_left
               ·intro w'
                go_simp
                with_reducible rfl
               rotate_left
               ·simp only [Act.put, List.setIfInBounds_toArray, List.set_cons_zero, List.set_cons_succ, i64_w, i32_w]
                rfl
               refine pure_ (i := 16) (N := some 46) (v := ?_) (a' := ?_) #[true, true, true, true, true, true, true, true, true, true, true, true, true, true, true, true, true, false] rfl rfl (any_of HT_.out (by kernel_rfl)) (fun _ _ _ h => h) (Or.inl ⟨by rfl, ?_⟩) ?_ ?_
               rotate_left
               ·intro w'
                go_simp
                with_reducible rfl
               rotate_left
               ·simp only [Act.put, List.setIfInBounds_toArray, List.set_cons_zero, List.set_cons_succ, i64_w, i32_w]
                rfl
               refine last_ (i := 17) (N := none) #[true, true, true, true, true, true, true, true, true, true, true, true, true, true, true, true, true, true] rfl rfl (one_of HT_.out (by kernel_rfl)) (by decide) (fun K hK => ?_)
               refine skip_ (w1 := ?_) (by rfl) rfl ?_ ?_
               rotate_left
               ·go_simp
                rfl
               refine hK.out _ _ ?_
               clear hK K
               refine done_ (done_of HT_.out (by kernel_rfl)) ?_
               try go_wp2
               have n0_ : Aside0 (Kd.R (Kd.int .i64) 3 (w26.setCell ⟨go20, ((ji17) : Int).toNat, none⟩ (.int .i64 (Int.tmod (wrap64 ((rd l0 x9_1) + (wrap64 ((l0.length : Int) / 2)))) (wrap64 (2 * (wrap64 ((l0.length : Int) / 2))))))) w.heap.size (fun k_ => some k_ ≠ (v433 : Value).ownBlock) (.slice (some ⟨go20, 0, none⟩) x7_1.length co20) y436) := ⟨by (with_reducible repeat (first | apply Kd.R_alloc | apply Kd.R_drewN | apply Kd.R_drew)); exact HQ27.out⟩
               have n1_ : Aside0 (Kd.R (Kd.int .i64) 3 (w26.setCell ⟨go20, ((ji17) : Int).toNat, none⟩ (.int .i64 (Int.tmod (wrap64 ((rd l0 x9_1) + (wrap64 ((l0.length : Int) / 2)))) (wrap64 (2 * (wrap64 ((l0.length : Int) / 2))))))) w.heap.size (fun k_ => some k_ ≠ (.slice (some ⟨go20, 0, none⟩) x7_1.length co20 : Value).ownBlock) v433 x8_1) := ⟨by (with_reducible repeat (first | apply Kd.R_alloc | apply Kd.R_drewN | apply Kd.R_drew)); exact Kd.R_mono (Kd.R_far (p := ⟨go20, ((ji17) : Int).toNat, none⟩) (Kd.R_mono HO_8.out (fun k_ hk => (⟨hk, fun e_ => hk (by rw [e_]; rfl)⟩ : _ ∧ k_ ≠ go20))) (fun _ hk => hk.2) (.int .i64 (Int.tmod (wrap64 ((rd l0 x9_1) + (wrap64 ((l0.length : Int) / 2)))) (wrap64 (2 * (wrap64 ((l0.length : Int) / 2))))))) (fun _ hk => hk.1)⟩
               have n2_ : Aside0 (Below w.heap.size w (w26.setCell ⟨go20, ((ji17) : Int).toNat, none⟩ (.int .i64 (Int.tmod (wrap64 ((rd l0 x9_1) + (wrap64 ((l0.length : Int) / 2)))) (wrap64 (2 * (wrap64 ((l0.length : Int) / 2)))))))) := ⟨by repeat (first | (with_reducible first | exact HB.out | apply below_alloc | apply pw_below_drewN | apply below_drew1 | refine below_set ?_ GB20.out) | exact HB.out)⟩
               (try clear HO_7)
               (try clear HO_8)
               (try clear HB)
               (try simp only [hji4] at n0_ n1_ n2_ ⊢)
               generalize (w26.setCell ⟨go20, ((ji17) : Int).toNat, none⟩ (.int .i64 (Int.tmod (wrap64 ((rd l0 x9_1) + (wrap64 ((l0.length : Int) / 2)))) ji4))) = w28 at n0_ n1_ n2_ ⊢
               have HO_7 := n0_
               have HO_8 := n1_
               have HB := n2_
               clear n0_ n1_ n2_
               have n0_ := Aside0.mk (Kd.R_drew HO_7.out)
               have n1_ := Aside0.mk (Kd.R_drew HO_8.out)
               have n2_ := Aside0.mk (below_drew1 HB.out)
               clear HO_7
               clear HO_8
               clear HB
               have HO_7 := n0_
               have HO_8 := n1_
               have HB := n2_
               clear n0_ n1_ n2_
               have p437 : 0 ≤ (x9_1 : Int) := of_decide_eq_true (by first | (with_reducible assumption) | assumption)
               have q437 : x9_1 < (l0.length : Int) := of_decide_eq_true (by first | (with_reducible assumption) | assumption)
               obtain ⟨ad437, e437, hx437_0⟩ := Kd.at_int HR0.out x9_1 p437 q437
               have hw437_0 := hx437_0
               obtain rfl : ad435 = ad437 := (by injection e437)
               replace hx437_0 := (HB.out.cell (World.block_lt_of_cell? w _ hx437_0)).trans hx437_0
               replace p437 := eq_true p437
               replace q437 := eq_true q437
               have p438 : 0 ≤ (x9_1 : Int) := of_decide_eq_true (by first | (with_reducible assumption) | assumption)
               have q438 : x9_1 < (l0.length : Int) := of_decide_eq_true (by first | (with_reducible assumption) | assumption)
               obtain ⟨ad438, e438, hx438_0⟩ := Kd.at_int HR0.out x9_1 p438 q438
               have hw438_0 := hx438_0
               obtain rfl : ad435 = ad438 := (by injection e438)
               replace hx438_0 := (HB.out.cell (World.block_lt_of_cell? w _ hx438_0)).trans hx438_0
               replace p438 := eq_true p438
               replace q438 := eq_true q438
               have p25 : 0 ≤ ((ji22) : Int) := of_decide_eq_true (by first | (with_reducible assumption) | assumption)
               have q25 : ((ji22) : Int) < ((x8_1.length : Int) : Int) := of_decide_eq_true (by first | (with_reducible assumption) | assumption)
               obtain ⟨go25, co25, eo25, gb25, gl25, cl25, HG25⟩ := Kd.R_form HO_8.out (by omega)
               (first | cases eo25 | (injection eo25 with ea_ en_ ec_; (first | subst ea_ | (injection ea_ with ea_; subst ea_)); subst ec_; clear en_))
               (try simp only [add_plain] at *)
               have GB25 := Aside0.mk gb25
               have GG25 := Aside0.mk HG25
               clear gb25 gl25 HG25
               obtain ⟨hx25_0, hf25_0⟩ := Kd.R_celln 0 HO_8.out ((ji22) : Int) p25 q25
               replace p25 := eq_true p25
               replace q25 := eq_true q25
               have HP30 := Kd.R_putn HO_8.out ((ji22) : Int) (wrap64 ((wrap64 ((wrap64 ((wrap64 ((wrap64 (Int.tdiv (rd l0 x9_1) (wrap64 ((l0.length : Int) / 2)))) * (wrap64 ((l0.length : Int) / 2)))) + (wrap64 ((l0.length : Int) / 2)))) - 1)) - (Int.tmod (rd l0 x9_1) (wrap64 ((l0.length : Int) / 2)))))
               rw [← Ny439.out] at HP30
               have HQ30 := Aside0.mk HP30
               clear HP30
               refine start_ (n := 33) (S := fun w' => w'.cell? (ad435.add (x9_1).toNat) = some (.int .i64 (rd l0 x9_1)) ∧ w'.cell? (ad435.add (x9_1).toNat) = some (.int .i64 (rd l0 x9_1))) (ds := [32]) #[false, false, false, false, false, false, false, false, false, false, false, false, false, false, false, false, false, false, false, false, false, false, false, false, false, false, false, false, false, false, false, false, false] (by kernel_rfl) rfl rfl ⟨((HB.out.cell (World.block_lt_of_cell? w _ hw437_0)).trans hw437_0), ((HB.out.cell (World.block_lt_of_cell? w _ hw438_0)).trans hw438_0)⟩ (fun hHeld => ?_); refine with_tabW pomaderef07_Turned.tab10 pomaderef07_Turned.bits10 (fun HT_ HW_ => ?_)
               generalize w28.drew = w29 at HO_7 HO_8 HB GG25 HQ27 HQ30 hf25_0 hx25_0 hx437_0 hx438_0 hHeld ⊢
               refine pure_ (i := 0) (N := some 47) (v := ?_) (a' := ?_) #[true, false, false, false, false, false, false, false, false, false, false, false, false, false, false, false, false, false, false, false, false, false, false, false, false, false, false, false, false, false, false, false, false] rfl rfl (any_of HT_.out (by kernel_rfl)) (fun _ _ _ h => h) (Or.inl ⟨by rfl, ?_⟩) ?_ ?_
               rotate_left
               ·intro w'
                go_simp
                with_reducible rfl
               rotate_left
               ·simp only [Act.put, List.setIfInBounds_toArray, List.set_cons_zero, List.set_cons_succ, i64_w, i32_w]
                rfl
               refine pure_ (i := 1) (N := some 48) (v := ?_) (a' := ?_) #[true, true, false, false, false, false, false, false, false, false, false, false, false, false, false, false, false, false, false, false, false, false, false, false, false, false, false, false, false, false, false, false, false] rfl rfl (any_of HT_.out (by kernel_rfl)) (fun _ _ _ h => h) (Or.inl ⟨by rfl, ?_⟩) ?_ ?_
               rotate_left
               ·intro w'
                go_simp
                with_reducible rfl
               rotate_left
               ·simp only [Act.put, List.setIfInBounds_toArray, List.set_cons_zero, List.set_cons_succ, i64_w, i32_w]
                rfl
               refine pure_ (i := 2) (N := some 49) (v := ?_) (a' := ?_) #[true, true, true, false, false, false, false, false, false, false, false, false, false, false, false, false, false, false, false, false, false, false, false, false, false, false, false, false, false, false, false, false, false] rfl rfl (any_of HT_.out (by kernel_rfl)) (fun _ _ _ h => h) (Or.inl ⟨by rfl, ?_⟩) ?_ ?_
               rotate_left
               ·intro w'
                go_simp
                with_reducible rfl
               rotate_left
               ·simp only [Act.put, List.setIfInBounds_toArray, List.set_cons_zero, List.set_cons_succ, i64_w, i32_w]
                rfl
               refine pure_ (i := 3) (N := some 50) (v := ?_) (a' := ?_) #[true, true, true, true, false, false, false, false, false, false, false, false, false, false, false, false, false, false, false, false, false, false, false, false, false, false, false, false, false, false, false, false, false] rfl rfl (any_of HT_.out (by kernel_rfl)) (fun _ _ _ h => h) (Or.inl ⟨by rfl, ?_⟩) ?_ ?_
               rotate_left
               ·intro w'
                go_simp
                with_reducible rfl
               rotate_left
               ·simp only [Act.put, List.setIfInBounds_toArray, List.set_cons_zero, List.set_cons_succ, i64_w, i32_w]
                rfl
               refine pure_ (i := 4) (N := some 51) (v := ?_) (a' := ?_) #[true, true, true, true, true, false, false, false, false, false, false, false, false, false, false, false, false, false, false, false, false, false, false, false, false, false, false, false, false, false, false, false, false] rfl rfl (any_of HT_.out (by kernel_rfl)) (fun _ _ _ h => h) (Or.inl ⟨by rfl, ?_⟩) ?_ ?_
               rotate_left
               ·intro w'
                go_simp
                with_reducible rfl
               rotate_left
               ·simp only [Act.put, List.setIfInBounds_toArray, List.set_cons_zero, List.set_cons_succ, i64_w, i32_w]
                rfl
               refine pure_ (i := 5) (N := some 52) (v := ?_) (a' := ?_) #[true, true, true, true, true, true, false, false, false, false, false, false, false, false, false, false, false, false, false, false, false, false, false, false, false, false, false, false, false, false, false, false, false] rfl rfl (any_of HT_.out (by kernel_rfl)) (fun _ _ _ h => h) (Or.inl ⟨by rfl, ?_⟩) ?_ ?_
               rotate_left
               ·intro w'
                go_simp
                with_reducible rfl
               rotate_left
               ·simp only [Act.put, List.setIfInBounds_toArray, List.set_cons_zero, List.set_cons_succ, i64_w, i32_w]
                rfl
               refine pure_ (i := 6) (N := some 53) (v := ?_) (a' := ?_) #[true, true, true, true, true, true, true, false, false, false, false, false, false, false, false, false, false, false, false, false, false, false, false, false, false, false, false, false, false, false, false, false, false] rfl rfl (any_of HT_.out (by kernel_rfl)) (fun _ _ _ h => h) (Or.inl ⟨by rfl, ?_⟩) ?_ ?_
               rotate_left
               ·intro w'
                go_simp
                with_reducible rfl
               rotate_left
               ·simp only [Act.put, List.setIfInBounds_toArray, List.set_cons_zero, List.set_cons_succ, i64_w, i32_w]
                rfl
               refine pure_ (i := 7) (N := some 54) (v := ?_) (a' := ?_) #[true, true, true, true, true, true, true, true, false, false, false, false, false, false, false, false, false, false, false, false, false, false, false, false, false, false, false, false, false, false, false, false, false] rfl rfl (any_of HT_.out (by kernel_rfl)) (fun _ _ _ h => h) (Or.inl ⟨by rfl, ?_⟩) ?_ ?_
               rotate_left
               ·intro w'
                go_simp
                with_reducible rfl
               rotate_left
               ·simp only [Act.put, List.setIfInBounds_toArray, List.set_cons_zero, List.set_cons_succ, i64_w, i32_w]
                rfl
               refine pure_ (i := 8) (N := some 55) (v := ?_) (a' := ?_) #[true, true, true, true, true, true, true, true, true, false, false, false, false, false, false, false, false, false, false, false, false, false, false, false, false, false, false, false, false, false, false, false, false] rfl rfl (any_of HT_.out (by kernel_rfl)) (fun _ _ _ h => h) (Or.inl ⟨by rfl, ?_⟩) ?_ ?_
               rotate_left
               ·intro w'
                go_simp
                with_reducible rfl
               rotate_left
               ·simp only [Act.put, List.setIfInBounds_toArray, List.set_cons_zero, List.set_cons_succ, i64_w, i32_w]
                rfl
               refine pure_ (i := 9) (N := some 56) (v := ?_) (a' := ?_) #[true, true, true, true, true, true, true, true, true, true, false, false, false, false, false, false, false, false, false, false, false, false, false, false, false, false, false, false, false, false, false, false, false] rfl rfl (any_of HT_.out (by kernel_rfl)) (fun _ _ _ h => h) (Or.inl ⟨by rfl, ?_⟩) ?_ ?_
               rotate_left
               ·intro w'
                go_simp
                with_reducible rfl
               rotate_left
               ·simp only [Act.put, List.setIfInBounds_toArray, List.set_cons_zero, List.set_cons_succ, i64_w, i32_w]
                rfl
               refine pure_ (i := 10) (N := some 57) (v := ?_) (a' := ?_) #[true, true, true, true, true, true, true, true, true, true, true, false, false, false, false, false, false, false, false, false, false, false, false, false, false, false, false, false, false, false, false, false, false] rfl rfl (any_of HT_.out (by kernel_rfl)) (fun _ _ _ h => h) (Or.inl ⟨by rfl, ?_⟩) ?_ ?_
               rotate_left
               ·intro w'
                go_simp
                with_reducible rfl
               rotate_left
               ·simp only [Act.put, List.setIfInBounds_toArray, List.set_cons_zero, List.set_cons_succ, i64_w, i32_w]
                rfl
               refine pure_ (i := 11) (N := some 58) (v := ?_) (a' := ?_) #[true, true, true, true, true, true, true, true, true, true, true, true, false, false, false, false, false, false, false, false, false, false, false, false, false, false, false, false, false, false, false, false, false] rfl rfl (any_of HT_.out (by kernel_rfl)) (fun _ _ _ h => h) (Or.inl ⟨by rfl, ?_⟩) ?_ ?_
               rotate_left
               ·intro w'
                go_simp
                with_reducible rfl
               rotate_left
               ·simp only [Act.put, List.setIfInBounds_toArray, List.set_cons_zero, List.set_cons_succ, i64_w, i32_w]
                rfl
               refine pure_ (i := 12) (N := some 59) (v := ?_) (a' := ?_) #[true, true, true, true, true, true, true, true, true, true, true, true, true, false, false, false, false, false, false, false, false, false, false, false, false, false, false, false, false, false, false, false, false] rfl rfl (any_of HT_.out (by kernel_rfl)) (fun _ _ _ h => h) (Or.inl ⟨by rfl, ?_⟩) ?_ ?_
               rotate_left
               ·intro w'
                go_simp
                with_reducible rfl
               rotate_left
               ·simp only [Act.put, List.setIfInBounds_toArray, List.set_cons_zero, List.set_cons_succ, i64_w, i32_w]
                rfl
               refine pure_ (i := 13) (N := some 60) (v := ?_) (a' := ?_) #[true, true, true, true, true, true, true, true, true, true, true, true, true, true, false, false, false, false, false, false, false, false, false, false, false, false, false, false, false, false, false, false, false] rfl rfl (any_of HT_.out (by kernel_rfl)) (fun _ _ _ h => h) (Or.inl ⟨by rfl, ?_⟩) ?_ ?_
               rotate_left
               ·intro w'
                go_simp
                with_reducible rfl
               rotate_left
               ·simp only [Act.put, List.setIfInBounds_toArray, List.set_cons_zero, List.set_cons_succ, i64_w, i32_w]
                rfl
               refine pure_ (i := 14) (N := some 61) (v := ?_) (a' := ?_) #[true, true, true, true, true, true, true, true, true, true, true, true, true, true, true, false, false, false, false, false, false, false, false, false, false, false, false, false, false, false, false, false, false] rfl rfl (any_of HT_.out (by kernel_rfl)) (fun _ _ _ h => h) (Or.inl ⟨by rfl, ?_⟩) ?_ ?_
               rotate_left
               ·intro w'
                go_simp
                with_reducible rfl
               rotate_left
               ·simp only [Act.put, List.setIfInBounds_toArray, List.set_cons_zero, List.set_cons_succ, i64_w, i32_w]
                rfl
               refine pure_ (i := 15) (N := some 62) (v := ?_) (a' := ?_) #[true, true, true, true, true, true, true, true, true, true, true, true, true, true, true, true, false, false, false, false, false, false, false, false, false, false, false, false, false, false, false, false, false] rfl rfl (any_of HT_.out (by kernel_rfl)) (fun _ _ _ h => h) (Or.inl ⟨by rfl, ?_⟩) ?_ ?_
               rotate_left
               ·intro w'
                go_simp
                with_reducible rfl
               rotate_left
               ·simp only [Act.put, List.setIfInBounds_toArray, List.set_cons_zero, List.set_cons_succ, i64_w, i32_w]
                rfl
               refine pure_ (i := 17) (N := some 64) (v := ?_) (a' := ?_) #[true, true, true, true, true, true, true, true, true, true, true, true, true, true, true, true, false, true, false, false, false, false, false, false, false, false, false, false, false, false, false, false, false] rfl rfl (any_of HT_.out (by kernel_rfl)) (fun _ _ _ h => h) (Or.inl ⟨by rfl, ?_⟩) ?_ ?_
               rotate_left
               ·intro w'
                go_simp
                with_reducible rfl
               rotate_left
               ·simp only [Act.put, List.setIfInBounds_toArray, List.set_cons_zero, List.set_cons_succ, i64_w, i32_w]
                rfl
               refine pure_ (i := 19) (N := some 66) (v := ?_) (a' := ?_) #[true, true, true, true, true, true, true, true, true, true, true, true, true, true, true, true, false, true, false, true, false, false, false, false, false, false, false, false, false, false, false, false, false] rfl rfl (any_of HT_.out (by kernel_rfl)) (fun _ _ _ h => h) (Or.inl ⟨by rfl, ?_⟩) ?_ ?_
               rotate_left
               ·intro w'
                go_simp
                with_reducible rfl
               rotate_left
               ·simp only [Act.put, List.setIfInBounds_toArray, List.set_cons_zero, List.set_cons_succ, i64_w, i32_w]
                rfl
               refine pure_ (i := 21) (N := some 68) (v := ?_) (a' := ?_) #[true, true, true, true, true, true, true, true, true, true, true, true, true, true, true, true, false, true, false, true, false, true, false, false, false, false, false, false, false, false, false, false, false] rfl rfl (any_of HT_.out (by kernel_rfl)) (fun _ _ _ h => h) (Or.inl ⟨by rfl, ?_⟩) ?_ ?_
               rotate_left
               ·intro w'
                go_simp
                with_reducible rfl
               rotate_left
               ·simp only [Act.put, List.setIfInBounds_toArray, List.set_cons_zero, List.set_cons_succ, i64_w, i32_w]
                rfl
               refine pure_ (i := 24) (N := some 71) (v := ?_) (a' := ?_) #[true, true, true, true, true, true, true, true, true, true, true, true, true, true, true, true, false, true, false, true, false, true, false, false, true, false, false, false, false, false, false, false, false] rfl rfl (any_of HT_.out (by kernel_rfl)) (fun _ _ _ h => h) (Or.inl ⟨by rfl, ?_⟩) ?_ ?_
               rotate_left
               ·intro w'
                go_simp
                with_reducible rfl
               rotate_left
               ·simp only [Act.put, List.setIfInBounds_toArray, List.set_cons_zero, List.set_cons_succ, i64_w, i32_w]
                rfl
               refine pure_ (i := 25) (N := some 72) (v := ?_) (a' := ?_) #[true, true, true, true, true, true, true, true, true, true, true, true, true, true, true, true, false, true, false, true, false, true, false, false, true, true, false, false, false, false, false, false, false] rfl rfl (any_of HT_.out (by kernel_rfl)) (fun _ _ _ h => h) (Or.inl ⟨by rfl, ?_⟩) ?_ ?_
               rotate_left
               ·intro w'
                go_simp
                with_reducible rfl
               rotate_left
               ·simp only [Act.put, List.setIfInBounds_toArray, List.set_cons_zero, List.set_cons_succ, i64_w, i32_w]
                rfl
               refine pure_ (i := 26) (N := some 73) (v := ?_) (a' := ?_) #[true, true, true, true, true, true, true, true, true, true, true, true, true, true, true, true, false, true, false, true, false, true, false, false, true, true, true, false, false, false, false, false, false] rfl rfl (any_of HT_.out (by kernel_rfl)) (fun _ _ _ h => h) (Or.inl ⟨by rfl, ?_⟩) ?_ ?_
               rotate_left
               ·intro w'
                go_simp
                with_reducible rfl
               rotate_left
               ·simp only [Act.put, List.setIfInBounds_toArray, List.set_cons_zero, List.set_cons_succ, i64_w, i32_w]
                rfl
               refine pure_ (i := 28) (N := some 75) (v := ?_) (a' := ?_) #[true, true, true, true, true, true, true, true, true, true, true, true, true, true, true, true, false, true, false, true, false, true, false, false, true, true, true, false, true, false, false, false, false] rfl rfl (any_of HT_.out (by kernel_rfl)) (fun _ _ _ h => h) (Or.inl ⟨by rfl, ?_⟩) ?_ ?_
               rotate_left
               ·intro w'
                go_simp
                with_reducible rfl
               rotate_left
               ·simp only [Act.put, List.setIfInBounds_toArray, List.set_cons_zero, List.set_cons_succ, i64_w, i32_w]
                rfl
               refine take_ (i := 16) (N := some 63) (v := ?_) (a' := ?_) #[true, true, true, true, true, true, true, true, true, true, true, true, true, true, true, true, true, true, false, true, false, true, false, false, true, true, true, false, true, false, false, false, false] rfl rfl (take_ofW HT_.out HW_.out (by kernel_rfl)) (fun _ _ _ h => h) (Or.inl ⟨by rfl, ?_⟩) hHeld ?_ ?_
               rotate_left
               ·rintro w' ⟨s0, s1⟩
                go_simp
                with_reducible rfl
               rotate_left
               ·simp only [Act.put, List.setIfInBounds_toArray, List.set_cons_zero, List.set_cons_succ, i64_w, i32_w]
                rfl
               refine pure_ (i := 18) (N := some 65) (v := ?_) (a' := ?_) #[true, true, true, true, true, true, true, true, true, true, true, true, true, true, true, true, true, true, true, true, false, true, false, false, true, true, true, false, true, false, false, false, false] rfl rfl (any_of HT_.out (by kernel_rfl)) (fun _ _ _ h => h) (Or.inl ⟨by rfl, ?_⟩) ?_ ?_
               rotate_left
               ·intro w'
                go_simp
                with_reducible rfl
               rotate_left
               ·simp only [Act.put, List.setIfInBounds_toArray, List.set_cons_zero, List.set_cons_succ, i64_w, i32_w]
                rfl
               refine pure_ (i := 20) (N := some 67) (v := ?_) (a' := ?_) #[true, true, true, true, true, true, true, true, true, true, true, true, true, true, true, true, true, true, true, true, true, true, false, false, true, true, true, false, true, false, false, false, false] rfl rfl (any_of HT_.out (by kernel_rfl)) (fun _ _ _ h => h) (Or.inl ⟨by rfl, ?_⟩) ?_ ?_
               rotate_left
               ·intro w'
                go_simp
                with_reducible rfl
               rotate_left
               ·simp only [Act.put, List.setIfInBounds_toArray, List.set_cons_zero, List.set_cons_succ, i64_w, i32_w]
                rfl
               refine pure_ (i := 22) (N := some 69) (v := ?_) (a' := ?_) #[true, true, true, true, true, true, true, true, true, true, true, true, true, true, true, true, true, true, true, true, true, true, true, false, true, true, true, false, true, false, false, false, false] rfl rfl (any_of HT_.out (by kernel_rfl)) (fun _ _ _ h => h) (Or.inl ⟨by rfl, ?_⟩) ?_ ?_
               rotate_left
               ·intro w'
                go_simp
                with_reducible rfl
               rotate_left
               ·simp only [Act.put, List.setIfInBounds_toArray, List.set_cons_zero, List.set_cons_succ, i64_w, i32_w]
                rfl
               refine pure_ (i := 23) (N := some 70) (v := ?_) (a' := ?_) #[true, true, true, true, true, true, true, true, true, true, true, true, true, true, true, true, true, true, true, true, true, true, true, true, true, true, true, false, true, false, false, false, false] rfl rfl (any_of HT_.out (by kernel_rfl)) (fun _ _ _ h => h) (Or.inl ⟨by rfl, ?_⟩) ?_ ?_
               rotate_left
               ·intro w'
                go_simp
                with_reducible rfl
               rotate_left
               ·simp only [Act.put, List.setIfInBounds_toArray, List.set_cons_zero, List.set_cons_succ, i64_w, i32_w]
                rfl
               refine take_ (i := 27) (N := some 74) (v := ?_) (a' := ?_) #[true, true, true, true, true, true, true, true, true, true, true, true, true, true, true, true, true, true, true, true, true, true, true, true, true, true, true, true, true, false, false, false, false] rfl rfl (take_ofW HT_.out HW_.out (by kernel_rfl)) (fun _ _ _ h => h) (Or.inl ⟨by rfl, ?_⟩) hHeld ?_ ?_
               rotate_left
               ·rintro w' ⟨s0, s1⟩
                go_simp
                with_reducible rfl
               rotate_left
               ·simp only [Act.put, List.setIfInBounds_toArray, List.set_cons_zero, List.set_cons_succ, i64_w, i32_w]
                rfl
               refine pure_ (i := 29) (N := some 76) (v := ?_) (a' := ?_) #[true, true, true, true, true, true, true, true, true, true, true, true, true, true, true, true, true, true, true, true, true, true, true, true, true, true, true, true, true, true, false, false, false] rfl rfl (any_of HT_.out (by kernel_rfl)) (fun _ _ _ h => h) (Or.inl ⟨by rfl, ?_⟩) ?_ ?_
               rotate_left
               ·intro w'
                go_simp
                with_reducible rfl
               rotate_left
               ·simp only [Act.put, List.setIfInBounds_toArray, List.set_cons_zero, List.set_cons_succ, i64_w, i32_w]
                rfl
               refine pure_ (i := 30) (N := some 77) (v := ?_) (a' := ?_) #[true, true, true, true, true, true, true, true, true, true, true, true, true, true, true, true, true, true, true, true, true, true, true, true, true, true, true, true, true, true, true, false, false] rfl rfl (any_of HT_.out (by kernel_rfl)) (fun _ _ _ h => h) (Or.inl ⟨by rfl, ?_⟩) ?_ ?_
               rotate_left
               ·intro w'
                go_simp
                with_reducible rfl
               rotate_left
               ·simp only [Act.put, List.setIfInBounds_toArray, List.set_cons_zero, List.set_cons_succ, i64_w, i32_w]
                rfl
               refine pure_ (i := 31) (N := some 78) (v := ?_) (a' := ?_) #[true, true, true, true, true, true, true, true, true, true, true, true, true, true, true, true, true, true, true, true, true, true, true, true, true, true, true, true, true, true, true, true, false] rfl rfl (any_of HT_.out (by kernel_rfl)) (fun _ _ _ h => h) (Or.inl ⟨by rfl, ?_⟩) ?_ ?_
               rotate_left
               ·intro w'
                go_simp
                with_reducible rfl
               rotate_left
               ·simp only [Act.put, List.setIfInBounds_toArray, List.set_cons_zero, List.set_cons_succ, i64_w, i32_w]
                rfl
               refine last_ (i := 32) (N := none) #[true, true, true, true, true, true, true, true, true, true, true, true, true, true, true, true, true, true, true, true, true, true, true, true, true, true, true, true, true, true, true, true, true] rfl rfl (one_of HT_.out (by kernel_rfl)) (by decide) (fun K hK => ?_)
               refine skip_ (w1 := ?_) (by rfl) rfl ?_ ?_
               rotate_left
               ·go_simp
                rfl
               refine hK.out _ _ ?_
               clear hK K
               refine done_ (done_of HT_.out (by kernel_rfl)) ?_
               try go_wp2
               go_roundg k1
               case measure => have := HK1.out; omega
               case rel => exact ⟨(y436), (y439), (wrap64 (x9_1 + 1)), (by first | rfl | (simp; done) | (simp [*]; done)), H', ⟨by have := HK1.out; omega⟩, ⟨by (with_reducible repeat (first | apply Kd.R_alloc | apply Kd.R_drewN | apply Kd.R_drew)); exact Kd.R_mono (Kd.R_far (p := ⟨go25, ((ji22) : Int).toNat, none⟩) (Kd.R_mono HO_7.out (fun k_ hk => (⟨hk, fun e_ => hk (by rw [e_]; rfl)⟩ : _ ∧ k_ ≠ go25))) (fun _ hk => hk.2) (.int .i64 (wrap64 ((wrap64 ((wrap64 ((wrap64 ((wrap64 (Int.tdiv (rd l0 x9_1) (wrap64 ((l0.length : Int) / 2)))) * (wrap64 ((l0.length : Int) / 2)))) + (wrap64 ((l0.length : Int) / 2)))) - 1)) - (Int.tmod (rd l0 x9_1) (wrap64 ((l0.length : Int) / 2))))))) (fun _ hk => hk.1)⟩, ⟨by (with_reducible repeat (first | apply Kd.R_alloc | apply Kd.R_drewN | apply Kd.R_drew)); exact HQ30.out⟩, ⟨by repeat (first | (with_reducible first | exact HB.out | apply below_alloc | apply pw_below_drewN | apply below_drew1 | refine below_set ?_ GB25.out) | exact HB.out)⟩⟩
              ·rw [if_neg c24] at H
               exact absurd H (by simp)
             ·rw [if_neg c23] at H
              exact absurd H (by simp)
           ·rw [if_neg c19] at H
            exact absurd H (by simp)
          ·rw [if_neg c18] at H
           exact absurd H (by simp)
         ·rw [if_neg c16] at H
          exact absurd H (by simp)
        ·rw [if_neg c15] at H
         exact absurd H (by simp)
      ·rw [if_neg c13] at H
       have c13b0 : decide (x9_1 < (wrap64 (2 * (wrap64 ((l0.length : Int) / 2))))) = false := decide_eq_false c13
       (try simp only [hji4] at c13b0)
       (try simp only [hji17] at c13b0)
       (try simp only [hji22] at c13b0)
       clear c13
       simp only [Option.some.injEq, Prod.mk.injEq] at H
       obtain ⟨rfl, rfl, rfl⟩ := H
       go_wp2
       go_ret3
       exact ⟨_, _, by first | rfl | (simp [errW_none, errW_some] <;> rfl) | (simp only [← hji4]; first | rfl | (simp [errW_none, errW_some] <;> rfl)) | (simp [*, errW_none, errW_some] <;> rfl), by (with_reducible repeat (first | apply Kd.R_alloc | apply Kd.R_drewN | apply Kd.R_drew)); exact HO_7.out, by (with_reducible repeat (first | apply Kd.R_alloc | apply Kd.R_drewN | apply Kd.R_drew)); exact HO_8.out, by repeat (first | (with_reducible first | exact HB.out | apply below_alloc | apply pw_below_drewN | apply below_drew1) | exact HB.out)⟩
   ·rw [if_neg c6] at H
    exact absurd H (by simp)
  ·rw [if_neg c5] at H
   exact absurd H (by simp)
 ·rw [if_neg c3] at H
  have c3b0 : (t428 == 0) = false := beq_eq_false_iff_ne.mpr c3
  (try have c3n : ¬ (ji4 = 0) := fun e_ => c3 (hji4.trans e_))
  have c3b1 : (t428 != 0) = true := bne_iff_ne.mpr c3
  simp only [Option.some.injEq, Prod.mk.injEq] at H
  obtain ⟨rfl, rfl, rfl⟩ := H
  go_enter Try.func47, Try.ntmps47
  go_wp2_with (first | ((with_reducible refine gate_callee (f := 19) rfl ?_); refine goesL_ (some 11) rfl rfl Try.func19 (by kernel_rfl) rfl #[.slice A0 l0.length c0] rfl (by (try simp only [List.map_toArray, List.map_cons, List.map_nil]); first | done | rfl | (simp only [List.length_drop, List.length_take]; rfl)) ?_; (with_reducible refine (pomaderef07_Diagram.calls k _ _ l0 t428 _ ?side1 ?side2 A2.out).mono ?_); (case side1 => repeat (first | exact HR0.out | (with_reducible refine Kd.C_alloc ?_ _) | (with_reducible refine Kd.C_drewN ?_ _) | (with_reducible refine Kd.C_drew ?_))); (case side2 => exact HC0.out); rintro e w' ⟨rfl, ⟨nd, rfl⟩⟩; refine ⟨_, rfl, ?_⟩))
  go_ret3
  exact ⟨_, _, by first | rfl | (simp [errW_none, errW_some] <;> rfl) | (simp [*, errW_none, errW_some] <;> rfl), by first | exact Kd.R_nil _ _ _ _ _ | exact Kd.N_nil _ _ _ _ _ | exact Kd.V_nil _ _ _ _ _ | exact Kd.Q_nil _ _ _ _ _ | exact Kd.S_nil _ _ _ _ _, by first | exact Kd.R_nil _ _ _ _ _ | exact Kd.N_nil _ _ _ _ _ | exact Kd.V_nil _ _ _ _ _ | exact Kd.Q_nil _ _ _ _ _ | exact Kd.S_nil _ _ _ _ _, by repeat (first | (with_reducible first | exact HB.out | apply below_alloc | apply pw_below_drewN | apply below_drew1) | exact HB.out)⟩
end Go.Proofs.Ytjfkompfkgjdaaa.PC
end
section
namespace Go.Proofs.Ytjfkompfkgjdaaa.PC
open Go.RowKit Go.Proofs.YtjfkompfkgjdaaaW.PrintWords Go.Proofs.YtjfkompfkgjdaaaW.PrintLast Go.Proofs.YtjfkompfkgjdaaaW.PrintMore
attribute [local go_sem] max2_int min2_int max_two min_two max_three min_three max_four min_four   -- for this text's walks alone
set_option linter.unusedVariables false
set_option linter.unusedSimpArgs false
/-! ### pomaderef07_Closed: function 48 -/
mutual
def pomaderef07_Closed.l0 : Nat → List Int → Int → List Bool → Int → Int → Option (Int × Int)
 | 0, _, _, _, _, _ => none
 | k + 1, x0, x5, x6, x7, x8 => if x8 < (wrap64 (2 * x5)) then (if 0 ≤ x8 then (if x8 < (x6.length : Int) then (if rdOf false x6 x8 = true then (pomaderef07_Closed.l0 k x0 x5 x6 x7 (wrap64 (x8 + 1))) else (pomaderef07_Closed.l1 k x0 x5 x6 (wrap64 (x7 + 1)) x8 x8)) else (none)) else (none)) else (some (x7, 0))
def pomaderef07_Closed.l1 : Nat → List Int → Int → List Bool → Int → Int → Int → Option (Int × Int)
 | 0, _, _, _, _, _, _ => none
 | k + 1, x0, x5, x6, x7, x8, x9 => if 0 ≤ x9 then (if x9 < (x6.length : Int) then (if rdOf false x6 x9 = true then (pomaderef07_Closed.l0 k x0 x5 x6 x7 (wrap64 (x8 + 1))) else (if x9 < (x0.length : Int) then (if 0 ≤ (rd x0 x9) then (if (rd x0 x9) < (x6.length : Int) then (if (wrap64 (2 * x5)) = 0 then (none) else (pomaderef07_Closed.l1 k x0 x5 ((x6.set (x9 : Int).toNat true).set ((rd x0 x9) : Int).toNat true) x7 x8 (Int.tmod (wrap64 ((rd x0 x9) + x5)) (wrap64 (2 * x5))))) else (none)) else (none)) else (none))) else (none)) else (none)
end
def pomaderef07_Closed.f (k : Nat) (l0 : List Int) : Option (Int × Int) := (pomaderef07_Diagram.f k l0).bind fun t440 => (if t440 = 0 then (if 0 ≤ (wrap64 (2 * (wrap64 ((l0.length : Int) / 2)))) then (if (wrap64 (2 * (wrap64 ((l0.length : Int) / 2))) : Int).toNat ≤ 281474976710656 then (pomaderef07_Closed.l0 k l0 (wrap64 ((l0.length : Int) / 2)) (List.replicate (wrap64 (2 * (wrap64 ((l0.length : Int) / 2))) : Int).toNat false) 0 0) else (none)) else (none)) else (some (0, t440)))
theorem pomaderef07_Closed.mono_l : ∀ k, (∀ y0 y1 y2 y3 y4, LeO (pomaderef07_Closed.l0 k y0 y1 y2 y3 y4) (pomaderef07_Closed.l0 (k + 1) y0 y1 y2 y3 y4)) ∧ (∀ y0 y1 y2 y3 y4 y5, LeO (pomaderef07_Closed.l1 k y0 y1 y2 y3 y4 y5) (pomaderef07_Closed.l1 (k + 1) y0 y1 y2 y3 y4 y5))
 | 0 => ⟨fun _ _ _ _ _ r h => by simp [pomaderef07_Closed.l0] at h, fun _ _ _ _ _ _ r h => by simp [pomaderef07_Closed.l1] at h⟩
 | k + 1 => by
  obtain ⟨ih0, ih1⟩ := pomaderef07_Closed.mono_l k
  refine ⟨?_, ?_⟩
  ·intro y0 y1 y2 y3 y4
   unfold pomaderef07_Closed.l0
   repeat' first
   | (with_reducible exact ih0 _ _ _ _ _)
   | (with_reducible exact ih1 _ _ _ _ _ _)
   | (with_reducible exact pomaderef07_Diagram.mono _ _)
   | (with_reducible exact LeO.refl _)
   | (with_reducible exact LeO.none _)
   | (with_reducible refine LeO.ite ?_ ?_)
   | (with_reducible refine LeO.bind ?_ (fun _ => ?_))
   | exact ih0 _ _ _ _ _
   | exact ih1 _ _ _ _ _ _
   | exact pomaderef07_Diagram.mono _ _
   | exact LeO.none _
   | refine LeO.ite ?_ ?_
   | refine LeO.bind ?_ (fun _ => ?_)
  ·intro y0 y1 y2 y3 y4 y5
   unfold pomaderef07_Closed.l1
   repeat' first
   | (with_reducible exact ih0 _ _ _ _ _)
   | (with_reducible exact ih1 _ _ _ _ _ _)
   | (with_reducible exact pomaderef07_Diagram.mono _ _)
   | (with_reducible exact LeO.refl _)
   | (with_reducible exact LeO.none _)
   | (with_reducible refine LeO.ite ?_ ?_)
   | (with_reducible refine LeO.bind ?_ (fun _ => ?_))
   | exact ih0 _ _ _ _ _
   | exact ih1 _ _ _ _ _ _
   | exact pomaderef07_Diagram.mono _ _
   | exact LeO.none _
   | refine LeO.ite ?_ ?_
   | refine LeO.bind ?_ (fun _ => ?_)
theorem pomaderef07_Closed.mono : ∀ a0 k, LeO (pomaderef07_Closed.f k a0) (pomaderef07_Closed.f (k + 1) a0) := by
 intro a0 k
 obtain ⟨ih0, ih1⟩ := pomaderef07_Closed.mono_l k
 unfold pomaderef07_Closed.f
 repeat' first
   | (with_reducible exact ih0 _ _ _ _ _)
   | (with_reducible exact ih1 _ _ _ _ _ _)
   | (with_reducible exact pomaderef07_Diagram.mono _ _)
   | (with_reducible exact LeO.refl _)
   | (with_reducible exact LeO.none _)
   | (with_reducible refine LeO.ite ?_ ?_)
   | (with_reducible refine LeO.bind ?_ (fun _ => ?_))
   | exact ih0 _ _ _ _ _
   | exact ih1 _ _ _ _ _ _
   | exact pomaderef07_Diagram.mono _ _
   | exact LeO.none _
   | refine LeO.ite ?_ ?_
   | refine LeO.bind ?_ (fun _ => ?_)
set_option maxHeartbeats 8000000 in
set_option maxRecDepth 100000 in
theorem pomaderef07_Closed.calls (k : Nat) (A0 : Option Addr) (c0 : Nat) (l0 : List Int) (r1 : Int) (r2 : Int) (w : World) (hr0 : Kd.C (Kd.int .i64) w A0 l0.length l0) (hc0 : l0.length ≤ c0) (h : pomaderef07_Closed.f k l0 = some (r1, r2)) :
  Calls Try.prog 48 #[.slice A0 l0.length c0] w fun e w' => e = .returned (.tuple #[.int .i64 r1, .int .i64 r2]) ∧ Below w.heap.size w w' := by
 have HR0 := Aside0.mk hr0
 have HC0 := Aside0.mk hc0
 clear hr0 hc0
 have HB := Aside0.mk (Below.refl w.heap.size w)
 have H : ((pomaderef07_Diagram.f k l0).bind fun t440 => (if t440 = 0 then (if 0 ≤ (wrap64 (2 * (wrap64 ((l0.length : Int) / 2)))) then (if (wrap64 (2 * (wrap64 ((l0.length : Int) / 2))) : Int).toNat ≤ 281474976710656 then (pomaderef07_Closed.l0 k l0 (wrap64 ((l0.length : Int) / 2)) (List.replicate (wrap64 (2 * (wrap64 ((l0.length : Int) / 2))) : Int).toNat false) 0 0) else (none)) else (none)) else (some (0, t440)))) = some (r1, r2) := h
 clear h
 replace H := Option.bind_eq_some_iff.mp H
 obtain ⟨t440, A20, H⟩ := H
 replace H : (if t440 = 0 then (if 0 ≤ (wrap64 (2 * (wrap64 ((l0.length : Int) / 2)))) then (if (wrap64 (2 * (wrap64 ((l0.length : Int) / 2))) : Int).toNat ≤ 281474976710656 then (pomaderef07_Closed.l0 k l0 (wrap64 ((l0.length : Int) / 2)) (List.replicate (wrap64 (2 * (wrap64 ((l0.length : Int) / 2))) : Int).toNat false) 0 0) else (none)) else (none)) else (some (0, t440))) = some (r1, r2) := H
 have A2 := Aside0.mk A20
 clear A20
 by_cases c3 : t440 = 0
 ·rw [if_pos c3] at H
  have c3b0 : (t440 == 0) = true := beq_iff_eq.mpr c3
  have c3b1 : (t440 != 0) = false := bne_eq_false_iff_eq.mpr c3
  clear c3
  obtain ⟨ji4, hji4⟩ : ∃ j_ : Int, (wrap64 (2 * (wrap64 ((l0.length : Int) / 2)))) = j_ := ⟨_, rfl⟩
  replace H : (if 0 ≤ (ji4) then (if (ji4 : Int).toNat ≤ 281474976710656 then (pomaderef07_Closed.l0 k l0 (wrap64 ((l0.length : Int) / 2)) (List.replicate (ji4 : Int).toNat false) 0 0) else (none)) else (none)) = some (r1, r2) := by first | (rw [hji4] at H; exact H) | (simp only [hji4] at H ⊢; exact H)
  (try rw [hji4] at A2)
  have hji4w : (IntKind.i64.wrap (2 * (wrap64 ((l0.length : Int) / 2)))) = ji4 := (i64_w _).trans hji4
  by_cases c5 : 0 ≤ (ji4)
  ·rw [if_pos c5] at H
   have c5b0 := eq_true c5
   have c5b1 : decide (0 ≤ (ji4)) = true := decide_eq_true c5
   clear c5
   by_cases c6 : (ji4 : Int).toNat ≤ 281474976710656
   ·rw [if_pos c6] at H
    have c6b0 := eq_true c6
    have c6b1 : decide ((ji4 : Int).toNat ≤ 281474976710656) = true := decide_eq_true c6
    clear c6
    obtain ⟨y441, hy441⟩ : ∃ y_ : List Bool, y_ = (List.replicate (ji4 : Int).toNat false) := ⟨_, rfl⟩
    replace H : (pomaderef07_Closed.l0 k l0 (wrap64 ((l0.length : Int) / 2)) y441 0 0) = some (r1, r2) := by first | (rw [hy441]; with_reducible exact H) | (have H2_ := (Option.bind_some _ _).symm.trans H; rw [hy441]; with_reducible exact H2_) | (have H2_ := (Option.bind_some _ _).symm.trans H; with_reducible exact H2_) | with_reducible exact H | (rw [hy441]; exact H) | exact H
    have Ny441 := Aside0.mk hy441
    clear hy441
    have H' := Aside0.mk H
    clear H
    go_enter Try.func48, Try.ntmps48
    go_wp2_with (first | ((with_reducible refine gate_callee (f := 19) rfl ?_); refine goesL_ (some 11) rfl rfl Try.func19 (by kernel_rfl) rfl #[.slice A0 l0.length c0] rfl (by (try simp only [List.map_toArray, List.map_cons, List.map_nil]); first | done | rfl | (simp only [List.length_drop, List.length_take]; rfl)) ?_; (with_reducible refine (pomaderef07_Diagram.calls k _ _ l0 t440 _ ?side1 ?side2 A2.out).mono ?_); (case side1 => repeat (first | exact HR0.out | (with_reducible refine Kd.C_alloc ?_ _) | (with_reducible refine Kd.C_drewN ?_ _) | (with_reducible refine Kd.C_drew ?_))); (case side2 => exact HC0.out); rintro e w' ⟨rfl, ⟨nd, rfl⟩⟩; refine ⟨_, rfl, ?_⟩) | ((with_reducible refine gate_dst (N := 20) rfl ?_); refine Kd.R_make Kd.bool _ 4 rfl (N := 20) rfl 69 _ _ rfl ji4 rfl rfl Try.underlying69 (.bool false) 1 info4 rfl (by decide) (by omega) false (ok := fun _ => True) (okp := fun _ => True) rfl (fun _ hk => hk) trivial (of_decide_eq_true (by first | (with_reducible assumption) | assumption)) (Nat.le_trans (Nat.mul_le_mul_right _ (of_decide_eq_true (by first | (with_reducible assumption) | assumption) : ji4.toNat ≤ 281474976710656)) (by omega)) (Below.refl _ _) (Nat.le_refl _) ?_; intro v442 w7 ho8 hb hg_ hnew_; clear hg_ hnew_; (first | rw [← Ny441.out] at ho8 | (simp only [Int.reduceToNat] at ho8; rw [← Ny441.out] at ho8)); have n0_ := Aside0.mk (Kd.R_lower ho8 (below_size (by repeat (first | (with_reducible first | exact HB.out | apply below_alloc | apply pw_below_drewN | apply below_drew1) | exact HB.out)))); have n1_ := Aside0.mk (below_step (by repeat (first | (with_reducible first | exact HB.out | apply below_alloc | apply pw_below_drewN | apply below_drew1) | exact HB.out)) hb); clear HB; have HO443 := n0_; have HB := n1_; clear n0_ n1_; clear hb ho8))
    go_loopg [7, 8] k (fun kq v7 v8 w' => ∃ (x6_1 : List Bool) (x7_1 : Int) (x8_1 : Int), v7 = .int .i64 x7_1 ∧ v8 = .int .i64 x8_1 ∧ Aside0 (pomaderef07_Closed.l0 kq l0 (wrap64 ((l0.length : Int) / 2)) x6_1 x7_1 x8_1 = some (r1, r2)) ∧ Aside0 (kq ≤ k) ∧ Aside0 (Kd.R Kd.bool 4 w' w.heap.size (fun _ => True) v442 x6_1) ∧ Aside0 (Below w.heap.size w w'))
    case atStart => exact ⟨(y441), (0), (0), (by first | rfl | (simp; done) | (simp [*]; done)), (by first | rfl | (simp; done) | (simp [*]; done)), H', ⟨Nat.le_refl _⟩, ⟨by (with_reducible repeat (first | apply Kd.R_alloc | apply Kd.R_drewN | apply Kd.R_drew)); exact HO443.out⟩, ⟨by repeat (first | (with_reducible first | exact HB.out | apply below_alloc | apply pw_below_drewN | apply below_drew1) | exact HB.out)⟩⟩
    case round =>
     clear H'
     try clear c1
     try clear p2
     try clear c3
     try clear c3b0
     try clear c3b1
     try clear c4
     try clear c5
     try clear c5b0
     try clear c5b1
     try clear c6
     try clear c6b0
     try clear c6b1
     try clear p6
     obtain ⟨x6_1, x7_1, x8_1, rfl, rfl, HA, HK1, HO_6, HB⟩ := hrel
     cases gk with
     | zero => exact absurd HA.out (by simp [pomaderef07_Closed.l0])
     | succ k1 =>
      have H := HA.out
      clear HA
      simp only [pomaderef07_Closed.l0] at H
      by_cases c9 : x8_1 < (wrap64 (2 * (wrap64 ((l0.length : Int) / 2))))
      ·rw [if_pos c9] at H
       have c9b0 : decide (x8_1 < (wrap64 (2 * (wrap64 ((l0.length : Int) / 2))))) = true := decide_eq_true c9
       (try simp only [hji4] at c9b0)
       clear c9
       by_cases c10 : 0 ≤ x8_1
       ·rw [if_pos c10] at H
        have c10b0 : decide (0 ≤ x8_1) = true := decide_eq_true c10
        clear c10
        by_cases c11 : x8_1 < (x6_1.length : Int)
        ·rw [if_pos c11] at H
         have c11b0 : decide (x8_1 < (x6_1.length : Int)) = true := decide_eq_true c11
         clear c11
         obtain ⟨bq12, hbq12⟩ : ∃ b_ : Bool, b_ = (rdOf false x6_1 x8_1) := ⟨_, rfl⟩
         replace H : (if bq12 = true then (pomaderef07_Closed.l0 k1 l0 (wrap64 ((l0.length : Int) / 2)) x6_1 x7_1 (wrap64 (x8_1 + 1))) else (pomaderef07_Closed.l1 k1 l0 (wrap64 ((l0.length : Int) / 2)) x6_1 (wrap64 (x7_1 + 1)) x8_1 x8_1)) = some (r1, r2) := by rw [← hbq12] at H; exact H
         have Nbq12 := Aside0.mk hbq12
         clear hbq12
         by_cases c13 : bq12 = true
         ·subst c13
          have H1 : (pomaderef07_Closed.l0 k1 l0 (wrap64 ((l0.length : Int) / 2)) x6_1 x7_1 (wrap64 (x8_1 + 1))) = some (r1, r2) := by rw [if_pos rfl] at H; exact H
          clear H
          have H := H1
          clear H1
          have H' := Aside0.mk H
          clear H
          obtain ⟨Ao14, co14, eo14⟩ := Kd.R_slice HO_6.out
          subst eo14
          have p444 : 0 ≤ (x8_1 : Int) := of_decide_eq_true (by first | (with_reducible assumption) | assumption)
          have q444 : x8_1 < (x6_1.length : Int) := of_decide_eq_true (by first | (with_reducible assumption) | assumption)
          obtain ⟨ad444, e444, hx444_0⟩ := Kd.at_bool (Kd.R_reads' HO_6.out).2.2 x8_1 p444 q444
          (try rw [← Nbq12.out] at hx444_0)
          cases e444
          replace p444 := eq_true p444
          replace q444 := eq_true q444
          go_wp2
          go_roundg k1
          case measure => have := HK1.out; omega
          case rel => exact ⟨(x6_1), (x7_1), (wrap64 (x8_1 + 1)), (by first | rfl | (simp; done) | (simp [*]; done)), (by first | rfl | (simp; done) | (simp [*]; done)), H', ⟨by have := HK1.out; omega⟩, ⟨by (with_reducible repeat (first | apply Kd.R_alloc | apply Kd.R_drewN | apply Kd.R_drew)); exact HO_6.out⟩, ⟨by repeat (first | (with_reducible first | exact HB.out | apply below_alloc | apply pw_below_drewN | apply below_drew1) | exact HB.out)⟩⟩
         ·replace c13 := Bool.eq_false_iff.mpr c13
          subst c13
          have H1 : (pomaderef07_Closed.l1 k1 l0 (wrap64 ((l0.length : Int) / 2)) x6_1 (wrap64 (x7_1 + 1)) x8_1 x8_1) = some (r1, r2) := by rw [if_neg (show ¬ (false = true) by decide)] at H; exact H
          clear H
          have H := H1
          clear H1
          have H' := Aside0.mk H
          clear H
          obtain ⟨Ao15, co15, eo15⟩ := Kd.R_slice HO_6.out
          subst eo15
          have p444 : 0 ≤ (x8_1 : Int) := of_decide_eq_true (by first | (with_reducible assumption) | assumption)
          have q444 : x8_1 < (x6_1.length : Int) := of_decide_eq_true (by first | (with_reducible assumption) | assumption)
          obtain ⟨ad444, e444, hx444_0⟩ := Kd.at_bool (Kd.R_reads' HO_6.out).2.2 x8_1 p444 q444
          (try rw [← Nbq12.out] at hx444_0)
          cases e444
          replace p444 := eq_true p444
          replace q444 := eq_true q444
          go_wp2
          go_loopg [9] k1 (fun kq v9 w' => ∃ (x6_2 : List Bool) (x9_2 : Int), v9 = .int .i64 x9_2 ∧ Aside0 (pomaderef07_Closed.l1 kq l0 (wrap64 ((l0.length : Int) / 2)) x6_2 (wrap64 (x7_1 + 1)) x8_1 x9_2 = some (r1, r2)) ∧ Aside0 (kq ≤ k1) ∧ Aside0 (Kd.R Kd.bool 4 w' w.heap.size (fun _ => True) (.slice (some ad444) x6_1.length co15) x6_2) ∧ Aside0 (Below w.heap.size w w'))
          case atStart => exact ⟨(x6_1), (x8_1), (by first | rfl | (simp; done) | (simp [*]; done)), H', ⟨Nat.le_refl _⟩, ⟨by (with_reducible repeat (first | apply Kd.R_alloc | apply Kd.R_drewN | apply Kd.R_drew)); exact HO_6.out⟩, ⟨by repeat (first | (with_reducible first | exact HB.out | apply below_alloc | apply pw_below_drewN | apply below_drew1) | exact HB.out)⟩⟩
          case round =>
           clear H'
           try clear c1
           try clear q1
           try clear p2
           try clear c3
           try clear c3b0
           try clear c3b1
           try clear c4
           try clear p4
           try clear q4
           try clear hx4
           try clear c5
           try clear c5b0
           try clear c5b1
           try clear c6
           try clear c6b0
           try clear c6b1
           try clear p6
           try clear c9
           try clear c9b0
           try clear c10
           try clear c10b0
           try clear c11
           try clear c11b0
           try clear q12
           try clear c13
           try clear hx444_0
           try clear p2
           try clear p444
           try clear p6
           try clear q444
           obtain ⟨x6_2, x9_2, rfl, HA, HK2, HO_6, HB⟩ := hrel
           have hl6_2 := (Kd.R_reads' HO_6.out).1
           rw [hl6_2] at HO_6
           (try simp only [hl6_2])
           cases gk with
           | zero => exact absurd HA.out (by simp [pomaderef07_Closed.l1])
           | succ k2 =>
            have H := HA.out
            clear HA
            simp only [pomaderef07_Closed.l1] at H
            by_cases c16 : 0 ≤ x9_2
            ·rw [if_pos c16] at H
             have c16b0 : decide (0 ≤ x9_2) = true := decide_eq_true c16
             clear c16
             by_cases c17 : x9_2 < (x6_2.length : Int)
             ·rw [if_pos c17] at H
              have c17b0 : decide (x9_2 < (x6_2.length : Int)) = true := decide_eq_true c17
              clear c17
              obtain ⟨bq18, hbq18⟩ : ∃ b_ : Bool, b_ = (rdOf false x6_2 x9_2) := ⟨_, rfl⟩
              replace H : (if bq18 = true then (pomaderef07_Closed.l0 k2 l0 (wrap64 ((l0.length : Int) / 2)) x6_2 (wrap64 (x7_1 + 1)) (wrap64 (x8_1 + 1))) else (if x9_2 < (l0.length : Int) then (if 0 ≤ (rd l0 x9_2) then (if (rd l0 x9_2) < (x6_2.length : Int) then (if (wrap64 (2 * (wrap64 ((l0.length : Int) / 2)))) = 0 then (none) else (pomaderef07_Closed.l1 k2 l0 (wrap64 ((l0.length : Int) / 2)) ((x6_2.set (x9_2 : Int).toNat true).set ((rd l0 x9_2) : Int).toNat true) (wrap64 (x7_1 + 1)) x8_1 (Int.tmod (wrap64 ((rd l0 x9_2) + (wrap64 ((l0.length : Int) / 2)))) (wrap64 (2 * (wrap64 ((l0.length : Int) / 2))))))) else (none)) else (none)) else (none))) = some (r1, r2) := by rw [← hbq18] at H; exact H
              have Nbq18 := Aside0.mk hbq18
              clear hbq18
              by_cases c19 : bq18 = true
              ·subst c19
               have H1 : (pomaderef07_Closed.l0 k2 l0 (wrap64 ((l0.length : Int) / 2)) x6_2 (wrap64 (x7_1 + 1)) (wrap64 (x8_1 + 1))) = some (r1, r2) := by rw [if_pos rfl] at H; exact H
               clear H
               have H := H1
               clear H1
               have H' := Aside0.mk H
               clear H
               have p445 : 0 ≤ (x9_2 : Int) := of_decide_eq_true (by first | (with_reducible assumption) | assumption)
               have q445 : x9_2 < (x6_2.length : Int) := of_decide_eq_true (by first | (with_reducible assumption) | assumption)
               obtain ⟨ad445, e445, hx445_0⟩ := Kd.at_bool (Kd.R_reads' HO_6.out).2.2 x9_2 p445 q445
               (try rw [← Nbq12.out] at hx445_0)
               (try rw [← Nbq18.out] at hx445_0)
               obtain rfl : ad444 = ad445 := (by injection e445)
               replace p445 := eq_true p445
               replace q445 := eq_true q445
               go_wp2
               (try simp only [← hl6_2])
               go_roundg k2
               case measure => have := HK1.out; have := HK2.out; omega
               case rel => exact ⟨(x6_2), ((wrap64 (x7_1 + 1))), (wrap64 (x8_1 + 1)), (by first | rfl | (simp; done) | (simp [*]; done)), (by first | rfl | (simp; done) | (simp [*]; done)), H', ⟨by have := HK1.out; have := HK2.out; omega⟩, ⟨by (try simp only [hl6_2]); (with_reducible repeat (first | apply Kd.R_alloc | apply Kd.R_drewN | apply Kd.R_drew)); exact HO_6.out⟩, ⟨by repeat (first | (with_reducible first | exact HB.out | apply below_alloc | apply pw_below_drewN | apply below_drew1) | exact HB.out)⟩⟩
              ·replace c19 := Bool.eq_false_iff.mpr c19
               subst c19
               have H1 : (if x9_2 < (l0.length : Int) then (if 0 ≤ (rd l0 x9_2) then (if (rd l0 x9_2) < (x6_2.length : Int) then (if (wrap64 (2 * (wrap64 ((l0.length : Int) / 2)))) = 0 then (none) else (pomaderef07_Closed.l1 k2 l0 (wrap64 ((l0.length : Int) / 2)) ((x6_2.set (x9_2 : Int).toNat true).set ((rd l0 x9_2) : Int).toNat true) (wrap64 (x7_1 + 1)) x8_1 (Int.tmod (wrap64 ((rd l0 x9_2) + (wrap64 ((l0.length : Int) / 2)))) (wrap64 (2 * (wrap64 ((l0.length : Int) / 2))))))) else (none)) else (none)) else (none)) = some (r1, r2) := by rw [if_neg (show ¬ (false = true) by decide)] at H; exact H
               clear H
               have H := H1
               clear H1
               obtain ⟨y446, hy446⟩ : ∃ y_ : List Bool, y_ = (x6_2.set (x9_2 : Int).toNat true) := ⟨_, rfl⟩
               replace H : (if x9_2 < (l0.length : Int) then (if 0 ≤ (rd l0 x9_2) then (if (rd l0 x9_2) < (x6_2.length : Int) then (if (wrap64 (2 * (wrap64 ((l0.length : Int) / 2)))) = 0 then (none) else (pomaderef07_Closed.l1 k2 l0 (wrap64 ((l0.length : Int) / 2)) (y446.set ((rd l0 x9_2) : Int).toNat true) (wrap64 (x7_1 + 1)) x8_1 (Int.tmod (wrap64 ((rd l0 x9_2) + (wrap64 ((l0.length : Int) / 2)))) (wrap64 (2 * (wrap64 ((l0.length : Int) / 2))))))) else (none)) else (none)) else (none)) = some (r1, r2) := by first | (rw [hy446]; with_reducible exact H) | (have H2_ := (Option.bind_some _ _).symm.trans H; rw [hy446]; with_reducible exact H2_) | (have H2_ := (Option.bind_some _ _).symm.trans H; with_reducible exact H2_) | with_reducible exact H | (rw [hy446]; exact H) | exact H
               have Ny446 := Aside0.mk hy446
               clear hy446
               by_cases c21 : x9_2 < (l0.length : Int)
               ·rw [if_pos c21] at H
                have c21b0 : decide (x9_2 < (l0.length : Int)) = true := decide_eq_true c21
                clear c21
                by_cases c22 : 0 ≤ (rd l0 x9_2)
                ·rw [if_pos c22] at H
                 have c22b0 : decide (0 ≤ (rd l0 x9_2)) = true := decide_eq_true c22
                 clear c22
                 by_cases c23 : (rd l0 x9_2) < (x6_2.length : Int)
                 ·rw [if_pos c23] at H
                  have c23b0 : decide ((rd l0 x9_2) < (x6_2.length : Int)) = true := decide_eq_true c23
                  clear c23
                  obtain ⟨y448, hy448⟩ : ∃ y_ : List Bool, y_ = (y446.set ((rd l0 x9_2) : Int).toNat true) := ⟨_, rfl⟩
                  replace H : (if (wrap64 (2 * (wrap64 ((l0.length : Int) / 2)))) = 0 then (none) else (pomaderef07_Closed.l1 k2 l0 (wrap64 ((l0.length : Int) / 2)) y448 (wrap64 (x7_1 + 1)) x8_1 (Int.tmod (wrap64 ((rd l0 x9_2) + (wrap64 ((l0.length : Int) / 2)))) (wrap64 (2 * (wrap64 ((l0.length : Int) / 2))))))) = some (r1, r2) := by first | (rw [hy448]; with_reducible exact H) | (have H2_ := (Option.bind_some _ _).symm.trans H; rw [hy448]; with_reducible exact H2_) | (have H2_ := (Option.bind_some _ _).symm.trans H; with_reducible exact H2_) | with_reducible exact H | (rw [hy448]; exact H) | exact H
                  have Ny448 := Aside0.mk hy448
                  clear hy448
                  by_cases c25 : (wrap64 (2 * (wrap64 ((l0.length : Int) / 2)))) = 0
                  ·rw [if_pos c25] at H
                   exact absurd H (by simp)
                  ·rw [if_neg c25] at H
                   have c25b0 : ((wrap64 (2 * (wrap64 ((l0.length : Int) / 2)))) == 0) = false := beq_eq_false_iff_ne.mpr c25
                   (try simp only [hji4] at c25b0)
                   have c25b1 : ((wrap64 (2 * (wrap64 ((l0.length : Int) / 2)))) != 0) = true := bne_iff_ne.mpr c25
                   (try simp only [hji4] at c25b1)
                   have H' := Aside0.mk H
                   clear H
                   have p445 : 0 ≤ (x9_2 : Int) := of_decide_eq_true (by first | (with_reducible assumption) | assumption)
                   have q445 : x9_2 < (x6_2.length : Int) := of_decide_eq_true (by first | (with_reducible assumption) | assumption)
                   obtain ⟨ad445, e445, hx445_0⟩ := Kd.at_bool (Kd.R_reads' HO_6.out).2.2 x9_2 p445 q445
                   (try rw [← Nbq12.out] at hx445_0)
                   (try rw [← Nbq18.out] at hx445_0)
                   obtain rfl : ad444 = ad445 := (by injection e445)
                   replace p445 := eq_true p445
                   replace q445 := eq_true q445
                   have p20 : 0 ≤ (x9_2 : Int) := of_decide_eq_true (by first | (with_reducible assumption) | assumption)
                   have q20 : (x9_2 : Int) < ((x6_2.length : Int) : Int) := of_decide_eq_true (by first | (with_reducible assumption) | assumption)
                   obtain ⟨go20, co20, eo20, gb20, gl20, cl20, HG20⟩ := Kd.R_form HO_6.out (by omega)
                   (first | cases eo20 | (injection eo20 with ea_ en_ ec_; (first | subst ea_ | (injection ea_ with ea_; subst ea_)); subst ec_; clear en_))
                   (try simp only [add_plain] at *)
                   have GB20 := Aside0.mk gb20
                   have GG20 := Aside0.mk HG20
                   clear gb20 gl20 HG20
                   (first | simp only [add_plain] at hx444_0 | skip)
                   (first | simp only [add_plain] at hx445_0 | skip)
                   obtain ⟨hx20_0, hf20_0⟩ := Kd.R_celln false HO_6.out (x9_2 : Int) p20 q20
                   replace p20 := eq_true p20
                   replace q20 := eq_true q20
                   have HP26 := Kd.R_putg HO_6.out (x9_2 : Int) true
                   go_wp2_with (first | ((with_reducible refine gate_store (t := 4) (p := 41) rfl ?_); refine store_event (t := 4) (p := 41) (v := ?vo_w27) (w1 := (wr.setCell ⟨go20, (x9_2 : Int).toNat, none⟩ (.bool true))) ?hg ?ho ?hn ?hr ?_; (case ho => rfl); (case hg => rfl); (case hn => rfl); (case hr => first | (go_simp; done) | (go_simp; rfl)); intro w27 hw; have hg : wr.grownBy w27 (some go20) := (by rw [hw]; exact HP26.2); have hp_ : Kd.R Kd.bool 4 w27 w.heap.size (fun _ => True) (.slice (some ⟨go20, 0, none⟩) x6_2.length co15) y446 := (by rw [hw, Ny446.out]; exact HP26.1); clear HP26; have n0_ := Aside0.mk (hp_); have n1_ := Aside0.mk ((by rw [hw]; exact below_set (HB.out) GB20.out : Below w.heap.size w w27)); clear HO_6; clear HB; have HO_6 := n0_; have HB := n1_; clear n0_ n1_; clear hg hw hp_; have p447 : 0 ≤ (x9_2 : Int) := of_decide_eq_true (by first | (with_reducible assumption) | assumption); have q447 : x9_2 < (l0.length : Int) := of_decide_eq_true (by first | (with_reducible assumption) | assumption); obtain ⟨ad447, e447, hx447_0⟩ := Kd.at_int HR0.out x9_2 p447 q447; cases e447; replace hx447_0 := (HB.out.cell (World.block_lt_of_cell? w _ hx447_0)).trans hx447_0; replace p447 := eq_true p447; replace q447 := eq_true q447; have p24 : 0 ≤ ((rd l0 x9_2) : Int) := of_decide_eq_true (by first | (with_reducible assumption) | assumption); have q24 : ((rd l0 x9_2) : Int) < ((x6_2.length : Int) : Int) := of_decide_eq_true (by first | (with_reducible assumption) | assumption); obtain ⟨hx24_0, hf24_0⟩ := Kd.R_celln false HO_6.out ((rd l0 x9_2) : Int) p24 q24; replace p24 := eq_true p24; replace q24 := eq_true q24; obtain ⟨hy28_, hz28_⟩ := Kd.R_celln false HO_6.out ((rd l0 x9_2) : Int) (of_decide_eq_true (by first | (with_reducible assumption) | assumption)) (of_decide_eq_true (by first | (with_reducible assumption) | assumption)); have HP28 := Kd.R_putg HO_6.out ((rd l0 x9_2) : Int) true) | ((with_reducible refine gate_store (t := 4) (p := 48) rfl ?_); refine store_event (t := 4) (p := 48) (v := ?vo_w29) (w1 := (w27.setCell ⟨go20, ((rd l0 x9_2) : Int).toNat, none⟩ (.bool true))) ?hg ?ho ?hn ?hr ?_; (case ho => rfl); (case hg => rfl); (case hn => rfl); (case hr => first | (go_simp; done) | (go_simp; rfl)); intro w29 hw; have hg : w27.grownBy w29 (some go20) := (by rw [hw]; exact HP28.2); have hp_ : Kd.R Kd.bool 4 w29 w.heap.size (fun _ => True) (.slice (some ⟨go20, 0, none⟩) x6_2.length co15) y448 := (by rw [hw, Ny448.out]; exact HP28.1); clear HP28; have n0_ := Aside0.mk (hp_); have n1_ := Aside0.mk ((by rw [hw]; exact below_set (HB.out) GB20.out : Below w.heap.size w w29)); clear HO_6; clear HB; have HO_6 := n0_; have HB := n1_; clear n0_ n1_; clear hg hw hp_))
                   (try simp only [← hl6_2])
                   go_roundg k2
                   case measure => have := HK1.out; have := HK2.out; omega
                   case rel => exact ⟨(y448), (Int.tmod (wrap64 ((rd l0 x9_2) + (wrap64 ((l0.length : Int) / 2)))) (wrap64 (2 * (wrap64 ((l0.length : Int) / 2))))), (by first | rfl | (simp; done) | (simp [*]; done)), H', ⟨by have := HK1.out; have := HK2.out; omega⟩, ⟨by (try simp only [hl6_2]); (with_reducible repeat (first | apply Kd.R_alloc | apply Kd.R_drewN | apply Kd.R_drew)); exact HO_6.out⟩, ⟨by repeat (first | (with_reducible first | exact HB.out | apply below_alloc | apply pw_below_drewN | apply below_drew1) | exact HB.out)⟩⟩
                 ·rw [if_neg c23] at H
                  exact absurd H (by simp)
                ·rw [if_neg c22] at H
                 exact absurd H (by simp)
               ·rw [if_neg c21] at H
                exact absurd H (by simp)
             ·rw [if_neg c17] at H
              exact absurd H (by simp)
            ·rw [if_neg c16] at H
             exact absurd H (by simp)
        ·rw [if_neg c11] at H
         exact absurd H (by simp)
       ·rw [if_neg c10] at H
        exact absurd H (by simp)
      ·rw [if_neg c9] at H
       have c9b0 : decide (x8_1 < (wrap64 (2 * (wrap64 ((l0.length : Int) / 2))))) = false := decide_eq_false c9
       (try simp only [hji4] at c9b0)
       clear c9
       simp only [Option.some.injEq, Prod.mk.injEq] at H
       obtain ⟨rfl, rfl⟩ := H
       go_wp2
       go_ret2
       exact ⟨by first | rfl | (simp [errW_none, errW_some] <;> rfl) | (simp only [← hji4]; first | rfl | (simp [errW_none, errW_some] <;> rfl)) | (simp [*, errW_none, errW_some] <;> rfl), by repeat (first | (with_reducible first | exact HB.out | apply below_alloc | apply pw_below_drewN | apply below_drew1) | exact HB.out)⟩
   ·rw [if_neg c6] at H
    exact absurd H (by simp)
  ·rw [if_neg c5] at H
   exact absurd H (by simp)
 ·rw [if_neg c3] at H
  have c3b0 : (t440 == 0) = false := beq_eq_false_iff_ne.mpr c3
  have c3b1 : (t440 != 0) = true := bne_iff_ne.mpr c3
  simp only [Option.some.injEq, Prod.mk.injEq] at H
  obtain ⟨rfl, rfl⟩ := H
  go_enter Try.func48, Try.ntmps48
  go_wp2_with (first | ((with_reducible refine gate_callee (f := 19) rfl ?_); refine goesL_ (some 11) rfl rfl Try.func19 (by kernel_rfl) rfl #[.slice A0 l0.length c0] rfl (by (try simp only [List.map_toArray, List.map_cons, List.map_nil]); first | done | rfl | (simp only [List.length_drop, List.length_take]; rfl)) ?_; (with_reducible refine (pomaderef07_Diagram.calls k _ _ l0 t440 _ ?side1 ?side2 A2.out).mono ?_); (case side1 => repeat (first | exact HR0.out | (with_reducible refine Kd.C_alloc ?_ _) | (with_reducible refine Kd.C_drewN ?_ _) | (with_reducible refine Kd.C_drew ?_))); (case side2 => exact HC0.out); rintro e w' ⟨rfl, ⟨nd, rfl⟩⟩; refine ⟨_, rfl, ?_⟩))
  go_ret2
  exact ⟨by first | rfl | (simp [errW_none, errW_some] <;> rfl) | (simp [*, errW_none, errW_some] <;> rfl), by repeat (first | (with_reducible first | exact HB.out | apply below_alloc | apply pw_below_drewN | apply below_drew1) | exact HB.out)⟩
end Go.Proofs.Ytjfkompfkgjdaaa.PC
end
section
namespace Go.Proofs.Ytjfkompfkgjdaaa.PC
open Go.RowKit Go.Proofs.YtjfkompfkgjdaaaW.PrintWords Go.Proofs.YtjfkompfkgjdaaaW.PrintLast Go.Proofs.YtjfkompfkgjdaaaW.PrintMore
attribute [local go_sem] max2_int min2_int max_two min_two max_three min_three max_four min_four   -- for this text's walks alone
set_option linter.unusedVariables false
set_option linter.unusedSimpArgs false
/-! ### plait_diagram_height: function 78 -/
mutual
def plait_diagram_height.l0 : Nat → List Int → Int → Int → Int → Int → Option (Int)
 | 0, _, _, _, _, _ => none
 | k + 1, x0, x3, x4, x12, x13 => if x13 < x12 then (plait_diagram_height.l1 k x0 x3 x4 x13 0 x12 x13 x0 (x0.length : Int) 0) else (some (wrap64 (Int.tdiv x4 2)))
def plait_diagram_height.l1 : Nat → List Int → Int → Int → Int → Int → Int → Int → List Int → Int → Int → Option (Int)
 | 0, _, _, _, _, _, _, _, _, _, _ => none
 | k + 1, x0, x3, x4, x5, x6, x12, x13, x16, x17, x18 => if x18 < x17 then (if 0 ≤ x18 then (if x18 < (x16.length : Int) then (if x18 < (rd x16 x18) then (if x3 = 0 then (none) else (if ((decide ((Int.tmod x18 x3) ≤ x5)) != (decide ((Int.tmod (rd x16 x18) x3) ≤ x5))) = true then (plait_diagram_height.l1 k x0 x3 x4 x5 (wrap64 (x6 + 1)) x12 x13 x16 x17 (wrap64 (x18 + 1))) else (plait_diagram_height.l1 k x0 x3 x4 x5 x6 x12 x13 x16 x17 (wrap64 (x18 + 1))))) else (plait_diagram_height.l1 k x0 x3 x4 x5 x6 x12 x13 x16 x17 (wrap64 (x18 + 1)))) else (none)) else (none)) else (plait_diagram_height.l0 k x0 x3 (wrap64 (x4 + x6)) x12 (wrap64 (x13 + 1)))
end
def plait_diagram_height.f (k : Nat) (l0 : List Int) : Option (Int) := (plait_diagram_size.f l0).bind fun t139 => (plait_diagram_height.l0 k l0 t139 0 (wrap64 (t139 - 1)) 0)
theorem plait_diagram_height.mono_l : ∀ k, (∀ y0 y1 y2 y3 y4, LeO (plait_diagram_height.l0 k y0 y1 y2 y3 y4) (plait_diagram_height.l0 (k + 1) y0 y1 y2 y3 y4)) ∧ (∀ y0 y1 y2 y3 y4 y5 y6 y7 y8 y9, LeO (plait_diagram_height.l1 k y0 y1 y2 y3 y4 y5 y6 y7 y8 y9) (plait_diagram_height.l1 (k + 1) y0 y1 y2 y3 y4 y5 y6 y7 y8 y9))
 | 0 => ⟨fun _ _ _ _ _ r h => by simp [plait_diagram_height.l0] at h, fun _ _ _ _ _ _ _ _ _ _ r h => by simp [plait_diagram_height.l1] at h⟩
 | k + 1 => by
  obtain ⟨ih0, ih1⟩ := plait_diagram_height.mono_l k
  refine ⟨?_, ?_⟩
  ·intro y0 y1 y2 y3 y4
   unfold plait_diagram_height.l0
   repeat' first
   | (with_reducible exact ih0 _ _ _ _ _)
   | (with_reducible exact ih1 _ _ _ _ _ _ _ _ _ _)
   | (with_reducible exact LeO.refl _)
   | (with_reducible exact LeO.none _)
   | (with_reducible refine LeO.ite ?_ ?_)
   | (with_reducible refine LeO.bind ?_ (fun _ => ?_))
   | exact ih0 _ _ _ _ _
   | exact ih1 _ _ _ _ _ _ _ _ _ _
   | exact LeO.none _
   | refine LeO.ite ?_ ?_
   | refine LeO.bind ?_ (fun _ => ?_)
  ·intro y0 y1 y2 y3 y4 y5 y6 y7 y8 y9
   unfold plait_diagram_height.l1
   repeat' first
   | (with_reducible exact ih0 _ _ _ _ _)
   | (with_reducible exact ih1 _ _ _ _ _ _ _ _ _ _)
   | (with_reducible exact LeO.refl _)
   | (with_reducible exact LeO.none _)
   | (with_reducible refine LeO.ite ?_ ?_)
   | (with_reducible refine LeO.bind ?_ (fun _ => ?_))
   | exact ih0 _ _ _ _ _
   | exact ih1 _ _ _ _ _ _ _ _ _ _
   | exact LeO.none _
   | refine LeO.ite ?_ ?_
   | refine LeO.bind ?_ (fun _ => ?_)
theorem plait_diagram_height.mono : ∀ a0 k, LeO (plait_diagram_height.f k a0) (plait_diagram_height.f (k + 1) a0) := by
 intro a0 k
 obtain ⟨ih0, ih1⟩ := plait_diagram_height.mono_l k
 unfold plait_diagram_height.f
 repeat' first
   | (with_reducible exact ih0 _ _ _ _ _)
   | (with_reducible exact ih1 _ _ _ _ _ _ _ _ _ _)
   | (with_reducible exact LeO.refl _)
   | (with_reducible exact LeO.none _)
   | (with_reducible refine LeO.ite ?_ ?_)
   | (with_reducible refine LeO.bind ?_ (fun _ => ?_))
   | exact ih0 _ _ _ _ _
   | exact ih1 _ _ _ _ _ _ _ _ _ _
   | exact LeO.none _
   | refine LeO.ite ?_ ?_
   | refine LeO.bind ?_ (fun _ => ?_)
set_option maxHeartbeats 8000000 in
set_option maxRecDepth 100000 in
theorem plait_diagram_height.calls (k : Nat) (A0 : Option Addr) (c0 : Nat) (l0 : List Int) (r : Int) (w : World) (hr0 : Kd.C (Kd.int .i64) w A0 l0.length l0) (hc0 : l0.length ≤ c0) (h : plait_diagram_height.f k l0 = some r) :
  Calls Try.prog 78 #[.slice A0 l0.length c0] w fun e w' => e = .returned (.int .i64 r) ∧ Drawn0 w w' := by
 have HR0 := Aside0.mk hr0
 have HC0 := Aside0.mk hc0
 clear hr0 hc0
 have H : ((plait_diagram_size.f l0).bind fun t139 => (plait_diagram_height.l0 k l0 t139 0 (wrap64 (t139 - 1)) 0)) = some r := h
 clear h
 replace H := Option.bind_eq_some_iff.mp H
 obtain ⟨t139, A20, H⟩ := H
 replace H : (plait_diagram_height.l0 k l0 t139 0 (wrap64 (t139 - 1)) 0) = some r := H
 have A2 := Aside0.mk A20
 clear A20
 have H' := Aside0.mk H
 clear H
 go_enter Try.func78, Try.ntmps78
 go_wp2_with (first | (go_at_call 72; (with_reducible refine (plait_diagram_size.calls _ _ l0 t139 _ ?side1 ?side2 A2.out).mono ?_); (case side1 => repeat (first | exact HR0.out | (with_reducible refine Kd.C_alloc ?_ _) | (with_reducible refine Kd.C_drewN ?_ _) | (with_reducible refine Kd.C_drew ?_))); (case side2 => exact HC0.out); rintro e w' ⟨rfl, ⟨nd, rfl⟩⟩; (try first | exact ⟨rfl, _, World.drewN_drewN _ _ _⟩ | exact ⟨rfl, _, Eq.trans (World.drewN_drewN _ _ _) (congrArg (World.drewN _) (Nat.add_assoc _ _ _))⟩)))
 repeat (go_quiet (first | (go_at_call 72; (with_reducible refine (plait_diagram_size.calls _ _ l0 t139 _ ?side1 ?side2 A2.out).mono ?_); (case side1 => repeat (first | exact HR0.out | (with_reducible refine Kd.C_alloc ?_ _) | (with_reducible refine Kd.C_drewN ?_ _) | (with_reducible refine Kd.C_drew ?_))); (case side2 => exact HC0.out); rintro e w' ⟨rfl, ⟨nd, rfl⟩⟩; (try first | exact ⟨rfl, _, World.drewN_drewN _ _ _⟩ | exact ⟨rfl, _, Eq.trans (World.drewN_drewN _ _ _) (congrArg (World.drewN _) (Nat.add_assoc _ _ _))⟩))); try go_wp2_with (first | (go_at_call 72; (with_reducible refine (plait_diagram_size.calls _ _ l0 t139 _ ?side1 ?side2 A2.out).mono ?_); (case side1 => repeat (first | exact HR0.out | (with_reducible refine Kd.C_alloc ?_ _) | (with_reducible refine Kd.C_drewN ?_ _) | (with_reducible refine Kd.C_drew ?_))); (case side2 => exact HC0.out); rintro e w' ⟨rfl, ⟨nd, rfl⟩⟩; (try first | exact ⟨rfl, _, World.drewN_drewN _ _ _⟩ | exact ⟨rfl, _, Eq.trans (World.drewN_drewN _ _ _) (congrArg (World.drewN _) (Nat.add_assoc _ _ _))⟩))))
 go_loopg [4, 13] k (fun kq v4 v13 w' => ∃ (x4_1 : Int) (x13_1 : Int), v4 = .int .i64 x4_1 ∧ v13 = .int .i64 x13_1 ∧ Aside0 (plait_diagram_height.l0 kq l0 t139 x4_1 (wrap64 (t139 - 1)) x13_1 = some r) ∧ Aside0 (kq ≤ k) ∧ Drawn0 w w')
 case atStart => exact ⟨(0), (0), (by first | rfl | (simp; done) | (simp [*]; done)), (by first | rfl | (simp; done) | (simp [*]; done)), H', ⟨Nat.le_refl _⟩, by repeat (first | exact Drawn0.refl _ | apply Drawn0.step)⟩
 case round =>
  clear H'
  try clear p2
  obtain ⟨x4_1, x13_1, rfl, rfl, HA, HK1, ⟨m1, rfl⟩⟩ := hrel
  cases gk with
  | zero => exact absurd HA.out (by simp [plait_diagram_height.l0])
  | succ k1 =>
   have H := HA.out
   clear HA
   simp only [plait_diagram_height.l0] at H
   by_cases c3 : x13_1 < (wrap64 (t139 - 1))
   ·rw [if_pos c3] at H
    have c3b0 : decide (x13_1 < (wrap64 (t139 - 1))) = true := decide_eq_true c3
    clear c3
    have H' := Aside0.mk H
    clear H
    go_wp2
    repeat (go_quiet (fail); try go_wp2)
    go_loopg [6, 18] k1 (fun kq v6 v18 w' => ∃ (x6_2 : Int) (x18_2 : Int), v6 = .int .i64 x6_2 ∧ v18 = .int .i64 x18_2 ∧ Aside0 (plait_diagram_height.l1 kq l0 t139 x4_1 x13_1 x6_2 (wrap64 (t139 - 1)) x13_1 l0 (l0.length : Int) x18_2 = some r) ∧ Aside0 (kq ≤ k1) ∧ Drawn0 w w')
    case atStart => exact ⟨(0), (0), (by first | rfl | (simp; done) | (simp [*]; done)), (by first | rfl | (simp; done) | (simp [*]; done)), H', ⟨Nat.le_refl _⟩, by repeat (first | exact Drawn0.refl _ | apply Drawn0.step)⟩
    case round =>
     clear H'
     try clear p2
     try clear c3
     try clear c3b0
     try clear p2
     obtain ⟨x6_2, x18_2, rfl, rfl, HA, HK2, ⟨m2, rfl⟩⟩ := hrel
     cases gk with
     | zero => exact absurd HA.out (by simp [plait_diagram_height.l1])
     | succ k2 =>
      have H := HA.out
      clear HA
      simp only [plait_diagram_height.l1] at H
      by_cases c4 : x18_2 < (l0.length : Int)
      ·rw [if_pos c4] at H
       have c4b0 : decide (x18_2 < (l0.length : Int)) = true := decide_eq_true c4
       clear c4
       by_cases c5 : 0 ≤ x18_2
       ·rw [if_pos c5] at H
        have c5b0 : decide (0 ≤ x18_2) = true := decide_eq_true c5
        clear c5
        by_cases c6 : x18_2 < (l0.length : Int)
        ·rw [if_pos c6] at H
         have c6b0 : decide (x18_2 < (l0.length : Int)) = true := decide_eq_true c6
         clear c6
         by_cases c7 : x18_2 < (rd l0 x18_2)
         ·rw [if_pos c7] at H
          have c7b0 : decide (x18_2 < (rd l0 x18_2)) = true := decide_eq_true c7
          clear c7
          by_cases c8 : t139 = 0
          ·rw [if_pos c8] at H
           exact absurd H (by simp)
          ·rw [if_neg c8] at H
           have c8b0 : (t139 == 0) = false := beq_eq_false_iff_ne.mpr c8
           have c8b1 : (t139 != 0) = true := bne_iff_ne.mpr c8
           by_cases c9 : ((decide ((Int.tmod x18_2 t139) ≤ x13_1)) != (decide ((Int.tmod (rd l0 x18_2) t139) ≤ x13_1))) = true
           ·rw [if_pos c9] at H
            have c9b0 : ((decide ((Int.tmod x18_2 t139) ≤ x13_1)) != (decide ((Int.tmod (rd l0 x18_2) t139) ≤ x13_1))) = true := c9
            (try (have c9b1 : decide ((decide ((Int.tmod x18_2 t139) ≤ x13_1)) = (decide ((Int.tmod (rd l0 x18_2) t139) ≤ x13_1))) = false := by simpa using c9))
            (try (have c9b2 : ((decide ((Int.tmod x18_2 t139) ≤ x13_1)) == (decide ((Int.tmod (rd l0 x18_2) t139) ≤ x13_1))) = false := by simpa using c9))
            (try (have c9b3 : ¬ ((decide ((Int.tmod x18_2 t139) ≤ x13_1)) = (decide ((Int.tmod (rd l0 x18_2) t139) ≤ x13_1))) := by simpa using c9))
            clear c9
            have H' := Aside0.mk H
            clear H
            have p140 : 0 ≤ (x18_2 : Int) := of_decide_eq_true (by first | (with_reducible assumption) | assumption)
            have q140 : x18_2 < (l0.length : Int) := of_decide_eq_true (by first | (with_reducible assumption) | assumption)
            obtain ⟨ad140, e140, hx140_0⟩ := Kd.at_int HR0.out x18_2 p140 q140
            cases e140
            replace p140 := eq_true p140
            replace q140 := eq_true q140
            go_wp2
            repeat (go_quiet (fail); try go_wp2)
            go_roundg k2
            case measure => have := HK1.out; have := HK2.out; omega
            case rel => exact ⟨(wrap64 (x6_2 + 1)), (wrap64 (x18_2 + 1)), (by first | rfl | (simp; done) | (simp [*]; done)), (by first | rfl | (simp; done) | (simp [*]; done)), H', ⟨by have := HK1.out; have := HK2.out; omega⟩, by repeat (first | exact Drawn0.refl _ | apply Drawn0.step)⟩
           ·rw [if_neg c9] at H
            have c9b0 : ((decide ((Int.tmod x18_2 t139) ≤ x13_1)) != (decide ((Int.tmod (rd l0 x18_2) t139) ≤ x13_1))) = false := by simpa using c9
            (try (have c9b1 : decide ((decide ((Int.tmod x18_2 t139) ≤ x13_1)) = (decide ((Int.tmod (rd l0 x18_2) t139) ≤ x13_1))) = true := by simpa using c9))
            (try (have c9b2 : ((decide ((Int.tmod x18_2 t139) ≤ x13_1)) == (decide ((Int.tmod (rd l0 x18_2) t139) ≤ x13_1))) = true := by simpa using c9))
            clear c9
            have H' := Aside0.mk H
            clear H
            have p140 : 0 ≤ (x18_2 : Int) := of_decide_eq_true (by first | (with_reducible assumption) | assumption)
            have q140 : x18_2 < (l0.length : Int) := of_decide_eq_true (by first | (with_reducible assumption) | assumption)
            obtain ⟨ad140, e140, hx140_0⟩ := Kd.at_int HR0.out x18_2 p140 q140
            cases e140
            replace p140 := eq_true p140
            replace q140 := eq_true q140
            go_wp2
            repeat (go_quiet (fail); try go_wp2)
            go_roundg k2
            case measure => have := HK1.out; have := HK2.out; omega
            case rel => exact ⟨(x6_2), (wrap64 (x18_2 + 1)), (by first | rfl | (simp; done) | (simp [*]; done)), (by first | rfl | (simp; done) | (simp [*]; done)), H', ⟨by have := HK1.out; have := HK2.out; omega⟩, by repeat (first | exact Drawn0.refl _ | apply Drawn0.step)⟩
         ·rw [if_neg c7] at H
          have c7b0 : decide (x18_2 < (rd l0 x18_2)) = false := decide_eq_false c7
          clear c7
          have H' := Aside0.mk H
          clear H
          have p140 : 0 ≤ (x18_2 : Int) := of_decide_eq_true (by first | (with_reducible assumption) | assumption)
          have q140 : x18_2 < (l0.length : Int) := of_decide_eq_true (by first | (with_reducible assumption) | assumption)
          obtain ⟨ad140, e140, hx140_0⟩ := Kd.at_int HR0.out x18_2 p140 q140
          cases e140
          replace p140 := eq_true p140
          replace q140 := eq_true q140
          go_wp2
          repeat (go_quiet (fail); try go_wp2)
          go_roundg k2
          case measure => have := HK1.out; have := HK2.out; omega
          case rel => exact ⟨(x6_2), (wrap64 (x18_2 + 1)), (by first | rfl | (simp; done) | (simp [*]; done)), (by first | rfl | (simp; done) | (simp [*]; done)), H', ⟨by have := HK1.out; have := HK2.out; omega⟩, by repeat (first | exact Drawn0.refl _ | apply Drawn0.step)⟩
        ·rw [if_neg c6] at H
         exact absurd H (by simp)
       ·rw [if_neg c5] at H
        exact absurd H (by simp)
      ·rw [if_neg c4] at H
       have c4b0 : decide (x18_2 < (l0.length : Int)) = false := decide_eq_false c4
       clear c4
       have H' := Aside0.mk H
       clear H
       go_wp2
       repeat (go_quiet (fail); try go_wp2)
       go_roundg k2
       case measure => have := HK1.out; have := HK2.out; omega
       case rel => exact ⟨(wrap64 (x4_1 + x6_2)), (wrap64 (x13_1 + 1)), (by first | rfl | (simp; done) | (simp [*]; done)), (by first | rfl | (simp; done) | (simp [*]; done)), H', ⟨by have := HK1.out; have := HK2.out; omega⟩, by repeat (first | exact Drawn0.refl _ | apply Drawn0.step)⟩
   ·rw [if_neg c3] at H
    have c3b0 : decide (x13_1 < (wrap64 (t139 - 1))) = false := decide_eq_false c3
    clear c3
    obtain rfl := Option.some.inj H
    go_wp2
    repeat (go_quiet (fail); try go_wp2)
    go_ret
    exact ⟨by first | rfl | (simp; done) | (simp [*]; done), by repeat (first | exact Drawn0.refl _ | apply Drawn0.step)⟩
/-! ### plait_diagram_int_69: function 69 -/
def plait_diagram_int_69.l0 : Nat → List Int → List Int → Int → Int → Option (Bool)
 | 0, _, _, _, _ => none
 | k + 1, x0, x1, x12, x13 => if x13 < x12 then (if 0 ≤ x13 then (if x13 < (x0.length : Int) then (if x13 < (x1.length : Int) then (if (rd x0 x13) = (rd x1 x13) then (plait_diagram_int_69.l0 k x0 x1 x12 (wrap64 (x13 + 1))) else (some false)) else (none)) else (none)) else (none)) else (some true)
def plait_diagram_int_69.f (k : Nat) (l0 : List Int) (l1 : List Int) : Option (Bool) := if (l0.length : Int) = (l1.length : Int) then (plait_diagram_int_69.l0 k l0 l1 (l0.length : Int) 0) else (some false)
theorem plait_diagram_int_69.mono_l : ∀ k, (∀ y0 y1 y2 y3, LeO (plait_diagram_int_69.l0 k y0 y1 y2 y3) (plait_diagram_int_69.l0 (k + 1) y0 y1 y2 y3))
 | 0 => fun _ _ _ _ r h => by simp [plait_diagram_int_69.l0] at h
 | k + 1 => by
  have ih0 := plait_diagram_int_69.mono_l k
  ·intro y0 y1 y2 y3
   unfold plait_diagram_int_69.l0
   repeat' first
   | (with_reducible exact ih0 _ _ _ _)
   | (with_reducible exact LeO.refl _)
   | (with_reducible exact LeO.none _)
   | (with_reducible refine LeO.ite ?_ ?_)
   | (with_reducible refine LeO.bind ?_ (fun _ => ?_))
   | exact ih0 _ _ _ _
   | exact LeO.none _
   | refine LeO.ite ?_ ?_
   | refine LeO.bind ?_ (fun _ => ?_)
theorem plait_diagram_int_69.mono : ∀ a0 a1 k, LeO (plait_diagram_int_69.f k a0 a1) (plait_diagram_int_69.f (k + 1) a0 a1) := by
 intro a0 a1 k
 have ih0 := plait_diagram_int_69.mono_l k
 unfold plait_diagram_int_69.f
 repeat' first
   | (with_reducible exact ih0 _ _ _ _)
   | (with_reducible exact LeO.refl _)
   | (with_reducible exact LeO.none _)
   | (with_reducible refine LeO.ite ?_ ?_)
   | (with_reducible refine LeO.bind ?_ (fun _ => ?_))
   | exact ih0 _ _ _ _
   | exact LeO.none _
   | refine LeO.ite ?_ ?_
   | refine LeO.bind ?_ (fun _ => ?_)
set_option maxHeartbeats 8000000 in
set_option maxRecDepth 100000 in
theorem plait_diagram_int_69.calls (k : Nat) (A0 : Option Addr) (c0 : Nat) (l0 : List Int) (A1 : Option Addr) (c1 : Nat) (l1 : List Int) (r : Bool) (w : World) (hr0 : Kd.C (Kd.int .i64) w A0 l0.length l0) (hc0 : l0.length ≤ c0) (hr1 : Kd.C (Kd.int .i64) w A1 l1.length l1) (hc1 : l1.length ≤ c1) (h : plait_diagram_int_69.f k l0 l1 = some r) :
  Calls Try.prog 69 #[.slice A0 l0.length c0, .slice A1 l1.length c1] w fun e w' => e = .returned (.bool r) ∧ Drawn0 w w' := by
 have HR0 := Aside0.mk hr0
 have HC0 := Aside0.mk hc0
 clear hr0 hc0
 have HR1 := Aside0.mk hr1
 have HC1 := Aside0.mk hc1
 clear hr1 hc1
 have H : (if (l0.length : Int) = (l1.length : Int) then (plait_diagram_int_69.l0 k l0 l1 (l0.length : Int) 0) else (some false)) = some r := h
 clear h
 by_cases c3 : (l0.length : Int) = (l1.length : Int)
 ·rw [if_pos c3] at H
  have c3b0 : ((l0.length : Int) == (l1.length : Int)) = true := beq_iff_eq.mpr c3
  have c3b1 : ((l0.length : Int) != (l1.length : Int)) = false := bne_eq_false_iff_eq.mpr c3
  have c3b2 : (l0.length == l1.length) = true := by first | simpa using c3 | (simp at c3 ⊢; omega)
  clear c3
  have H' := Aside0.mk H
  clear H
  go_enter Try.func69, Try.ntmps69
  go_wp2
  repeat (go_quiet (fail); try go_wp2)
  go_loopg [13] k (fun kq v13 w' => ∃ (x13_1 : Int), v13 = .int .i64 x13_1 ∧ Aside0 (plait_diagram_int_69.l0 kq l0 l1 (l0.length : Int) x13_1 = some r) ∧ Aside0 (kq ≤ k) ∧ Drawn0 w w')
  case atStart => exact ⟨(0), (by first | rfl | (simp; done) | (simp [*]; done)), H', ⟨Nat.le_refl _⟩, by repeat (first | exact Drawn0.refl _ | apply Drawn0.step)⟩
  case round =>
   clear H'
   try clear c1
   try clear p2
   try clear c3
   try clear c3b0
   try clear c3b1
   try clear c3b2
   obtain ⟨x13_1, rfl, HA, HK1, ⟨m1, rfl⟩⟩ := hrel
   cases gk with
   | zero => exact absurd HA.out (by simp [plait_diagram_int_69.l0])
   | succ k1 =>
    have H := HA.out
    clear HA
    simp only [plait_diagram_int_69.l0] at H
    by_cases c4 : x13_1 < (l0.length : Int)
    ·rw [if_pos c4] at H
     have c4b0 : decide (x13_1 < (l0.length : Int)) = true := decide_eq_true c4
     clear c4
     by_cases c5 : 0 ≤ x13_1
     ·rw [if_pos c5] at H
      have c5b0 : decide (0 ≤ x13_1) = true := decide_eq_true c5
      clear c5
      by_cases c6 : x13_1 < (l0.length : Int)
      ·rw [if_pos c6] at H
       have c6b0 : decide (x13_1 < (l0.length : Int)) = true := decide_eq_true c6
       clear c6
       by_cases c7 : x13_1 < (l1.length : Int)
       ·rw [if_pos c7] at H
        have c7b0 : decide (x13_1 < (l1.length : Int)) = true := decide_eq_true c7
        clear c7
        by_cases c8 : (rd l0 x13_1) = (rd l1 x13_1)
        ·rw [if_pos c8] at H
         have c8b0 : ((rd l0 x13_1) == (rd l1 x13_1)) = true := beq_iff_eq.mpr c8
         have c8b1 : ((rd l0 x13_1) != (rd l1 x13_1)) = false := bne_eq_false_iff_eq.mpr c8
         clear c8
         have H' := Aside0.mk H
         clear H
         have p144 : 0 ≤ (x13_1 : Int) := of_decide_eq_true (by first | (with_reducible assumption) | assumption)
         have q144 : x13_1 < (l0.length : Int) := of_decide_eq_true (by first | (with_reducible assumption) | assumption)
         obtain ⟨ad144, e144, hx144_0⟩ := Kd.at_int HR0.out x13_1 p144 q144
         cases e144
         replace p144 := eq_true p144
         replace q144 := eq_true q144
         have p145 : 0 ≤ (x13_1 : Int) := of_decide_eq_true (by first | (with_reducible assumption) | assumption)
         have q145 : x13_1 < (l1.length : Int) := of_decide_eq_true (by first | (with_reducible assumption) | assumption)
         obtain ⟨ad145, e145, hx145_0⟩ := Kd.at_int HR1.out x13_1 p145 q145
         cases e145
         replace p145 := eq_true p145
         replace q145 := eq_true q145
         go_wp2
         repeat (go_quiet (fail); try go_wp2)
         go_roundg k1
         case measure => have := HK1.out; omega
         case rel => exact ⟨(wrap64 (x13_1 + 1)), (by first | rfl | (simp; done) | (simp [*]; done)), H', ⟨by have := HK1.out; omega⟩, by repeat (first | exact Drawn0.refl _ | apply Drawn0.step)⟩
        ·rw [if_neg c8] at H
         have c8b0 : ((rd l0 x13_1) == (rd l1 x13_1)) = false := beq_eq_false_iff_ne.mpr c8
         have c8b1 : ((rd l0 x13_1) != (rd l1 x13_1)) = true := bne_iff_ne.mpr c8
         obtain rfl := Option.some.inj H
         have p144 : 0 ≤ (x13_1 : Int) := of_decide_eq_true (by first | (with_reducible assumption) | assumption)
         have q144 : x13_1 < (l0.length : Int) := of_decide_eq_true (by first | (with_reducible assumption) | assumption)
         obtain ⟨ad144, e144, hx144_0⟩ := Kd.at_int HR0.out x13_1 p144 q144
         cases e144
         replace p144 := eq_true p144
         replace q144 := eq_true q144
         have p145 : 0 ≤ (x13_1 : Int) := of_decide_eq_true (by first | (with_reducible assumption) | assumption)
         have q145 : x13_1 < (l1.length : Int) := of_decide_eq_true (by first | (with_reducible assumption) | assumption)
         obtain ⟨ad145, e145, hx145_0⟩ := Kd.at_int HR1.out x13_1 p145 q145
         cases e145
         replace p145 := eq_true p145
         replace q145 := eq_true q145
         go_wp2
         repeat (go_quiet (fail); try go_wp2)
         go_ret
         exact ⟨by first | rfl | (simp; done) | (simp [*]; done), by repeat (first | exact Drawn0.refl _ | apply Drawn0.step)⟩
       ·rw [if_neg c7] at H
        exact absurd H (by simp)
      ·rw [if_neg c6] at H
       exact absurd H (by simp)
     ·rw [if_neg c5] at H
      exact absurd H (by simp)
    ·rw [if_neg c4] at H
     have c4b0 : decide (x13_1 < (l0.length : Int)) = false := decide_eq_false c4
     clear c4
     obtain rfl := Option.some.inj H
     go_wp2
     repeat (go_quiet (fail); try go_wp2)
     go_ret
     exact ⟨by first | rfl | (simp; done) | (simp [*]; done), by repeat (first | exact Drawn0.refl _ | apply Drawn0.step)⟩
 ·rw [if_neg c3] at H
  have c3b0 : ((l0.length : Int) == (l1.length : Int)) = false := beq_eq_false_iff_ne.mpr c3
  have c3b1 : ((l0.length : Int) != (l1.length : Int)) = true := bne_iff_ne.mpr c3
  have c3b2 : (l0.length == l1.length) = false := by first | simpa using c3 | (simp at c3 ⊢; omega)
  obtain rfl := Option.some.inj H
  go_enter Try.func69, Try.ntmps69
  go_wp2
  repeat (go_quiet (fail); try go_wp2)
  go_ret
  exact ⟨by first | rfl | (simp; done) | (simp [*]; done), by repeat (first | exact Drawn0.refl _ | apply Drawn0.step)⟩
/-! ### plait_identity: function 76 -/
def plait_identity.l0 : Nat → Int → List Int → Int → Int → Option (List Int)
 | 0, _, _, _, _ => none
 | k + 1, x0, x3, x8, x9 => if x9 < x8 then (if 0 ≤ x9 then (if x9 < (x3.length : Int) then (if 0 ≤ (wrap64 (x0 + x9)) then (if (wrap64 (x0 + x9)) < (x3.length : Int) then (plait_identity.l0 k x0 ((x3.set (x9 : Int).toNat (wrap64 (x0 + x9))).set ((wrap64 (x0 + x9)) : Int).toNat x9) x8 (wrap64 (x9 + 1))) else (none)) else (none)) else (none)) else (none)) else (some x3)
def plait_identity.f (k : Nat) (a0 : Int) : Option (List Int) := if 0 ≤ (wrap64 (2 * a0)) then (if (wrap64 (2 * a0) : Int).toNat ≤ 35184372088832 then (plait_identity.l0 k a0 (List.replicate (wrap64 (2 * a0) : Int).toNat 0) a0 0) else (none)) else (none)
theorem plait_identity.mono_l : ∀ k, (∀ y0 y1 y2 y3, LeO (plait_identity.l0 k y0 y1 y2 y3) (plait_identity.l0 (k + 1) y0 y1 y2 y3))
 | 0 => fun _ _ _ _ r h => by simp [plait_identity.l0] at h
 | k + 1 => by
  have ih0 := plait_identity.mono_l k
  ·intro y0 y1 y2 y3
   unfold plait_identity.l0
   repeat' first
   | (with_reducible exact ih0 _ _ _ _)
   | (with_reducible exact LeO.refl _)
   | (with_reducible exact LeO.none _)
   | (with_reducible refine LeO.ite ?_ ?_)
   | (with_reducible refine LeO.bind ?_ (fun _ => ?_))
   | exact ih0 _ _ _ _
   | exact LeO.none _
   | refine LeO.ite ?_ ?_
   | refine LeO.bind ?_ (fun _ => ?_)
theorem plait_identity.mono : ∀ a0 k, LeO (plait_identity.f k a0) (plait_identity.f (k + 1) a0) := by
 intro a0 k
 have ih0 := plait_identity.mono_l k
 unfold plait_identity.f
 repeat' first
   | (with_reducible exact ih0 _ _ _ _)
   | (with_reducible exact LeO.refl _)
   | (with_reducible exact LeO.none _)
   | (with_reducible refine LeO.ite ?_ ?_)
   | (with_reducible refine LeO.bind ?_ (fun _ => ?_))
   | exact ih0 _ _ _ _
   | exact LeO.none _
   | refine LeO.ite ?_ ?_
   | refine LeO.bind ?_ (fun _ => ?_)
set_option maxHeartbeats 8000000 in
set_option maxRecDepth 100000 in
theorem plait_identity.calls (k : Nat) (a0 : Int) (r : List Int) (w : World) (h : plait_identity.f k a0 = some r) :
  Calls Try.prog 76 #[.int .i64 a0] w fun e w' => ∃ v0_ : Value, e = .returned (v0_) ∧ Kd.R (Kd.int .i64) 3 w' w.heap.size (fun _ => True) v0_ r ∧ Below w.heap.size w w' := by
 have HB := Aside0.mk (Below.refl w.heap.size w)
 have H : (if 0 ≤ (wrap64 (2 * a0)) then (if (wrap64 (2 * a0) : Int).toNat ≤ 35184372088832 then (plait_identity.l0 k a0 (List.replicate (wrap64 (2 * a0) : Int).toNat 0) a0 0) else (none)) else (none)) = some r := h
 clear h
 obtain ⟨ji2, hji2⟩ : ∃ j_ : Int, (wrap64 (2 * a0)) = j_ := ⟨_, rfl⟩
 replace H : (if 0 ≤ (ji2) then (if (ji2 : Int).toNat ≤ 35184372088832 then (plait_identity.l0 k a0 (List.replicate (ji2 : Int).toNat 0) a0 0) else (none)) else (none)) = some r := by first | (rw [hji2] at H; exact H) | (simp only [hji2] at H ⊢; exact H)
 have hji2w : (IntKind.i64.wrap (2 * a0)) = ji2 := (i64_w _).trans hji2
 by_cases c3 : 0 ≤ (ji2)
 ·rw [if_pos c3] at H
  have c3b0 := eq_true c3
  have c3b1 : decide (0 ≤ (ji2)) = true := decide_eq_true c3
  clear c3
  by_cases c4 : (ji2 : Int).toNat ≤ 35184372088832
  ·rw [if_pos c4] at H
   have c4b0 := eq_true c4
   have c4b1 : decide ((ji2 : Int).toNat ≤ 35184372088832) = true := decide_eq_true c4
   clear c4
   obtain ⟨y146, hy146⟩ : ∃ y_ : List Int, y_ = (List.replicate (ji2 : Int).toNat 0) := ⟨_, rfl⟩
   replace H : (plait_identity.l0 k a0 y146 a0 0) = some r := by first | (rw [hy146]; with_reducible exact H) | (have H2_ := (Option.bind_some _ _).symm.trans H; rw [hy146]; with_reducible exact H2_) | (have H2_ := (Option.bind_some _ _).symm.trans H; with_reducible exact H2_) | with_reducible exact H | (rw [hy146]; exact H) | exact H
   have Ny146 := Aside0.mk hy146
   clear hy146
   have H' := Aside0.mk H
   clear H
   go_enter Try.func76, Try.ntmps76
   go_wp2_with (first | ((with_reducible refine gate_dst (N := 7) rfl ?_); refine Kd.R_make (Kd.int .i64) _ 3 rfl (N := 7) rfl 65 _ _ rfl ji2 rfl rfl Try.underlying65 (.int .i64 0) 8 info3 rfl (by decide) (by omega) 0 (ok := fun _ => True) (okp := fun _ => True) rfl (fun _ hk => hk) trivial (of_decide_eq_true (by first | (with_reducible assumption) | assumption)) (Nat.le_trans (Nat.mul_le_mul_right _ (of_decide_eq_true (by first | (with_reducible assumption) | assumption) : ji2.toNat ≤ 35184372088832)) (by omega)) (Below.refl _ _) (Nat.le_refl _) ?_; intro v147 w5 ho6 hb hg_ hnew_; clear hg_ hnew_; (first | rw [← Ny146.out] at ho6 | (simp only [Int.reduceToNat] at ho6; rw [← Ny146.out] at ho6)); have n0_ := Aside0.mk (Kd.R_lower ho6 (below_size (by repeat (first | (with_reducible first | exact HB.out | apply below_alloc | apply pw_below_drewN | apply below_drew1) | exact HB.out)))); have n1_ := Aside0.mk (below_step (by repeat (first | (with_reducible first | exact HB.out | apply below_alloc | apply pw_below_drewN | apply below_drew1) | exact HB.out)) hb); clear HB; have HO148 := n0_; have HB := n1_; clear n0_ n1_; clear hb ho6))
   go_loopg [9] k (fun kq v9 w' => ∃ (x3_1 : List Int) (x9_1 : Int), v9 = .int .i64 x9_1 ∧ Aside0 (plait_identity.l0 kq a0 x3_1 a0 x9_1 = some r) ∧ Aside0 (kq ≤ k) ∧ Aside0 (Kd.R (Kd.int .i64) 3 w' w.heap.size (fun _ => True) v147 x3_1) ∧ Aside0 (Below w.heap.size w w'))
   case atStart => exact ⟨(y146), (0), (by first | rfl | (simp; done) | (simp [*]; done)), H', ⟨Nat.le_refl _⟩, ⟨by (with_reducible repeat (first | apply Kd.R_alloc | apply Kd.R_drewN | apply Kd.R_drew)); exact HO148.out⟩, ⟨by repeat (first | (with_reducible first | exact HB.out | apply below_alloc | apply pw_below_drewN | apply below_drew1) | exact HB.out)⟩⟩
   case round =>
    clear H'
    try clear p2
    try clear c3
    try clear c3b0
    try clear c3b1
    try clear c4
    try clear c4b0
    try clear c4b1
    try clear p6
    obtain ⟨x3_1, x9_1, rfl, HA, HK1, HO_3, HB⟩ := hrel
    cases gk with
    | zero => exact absurd HA.out (by simp [plait_identity.l0])
    | succ k1 =>
     have H := HA.out
     clear HA
     simp only [plait_identity.l0] at H
     by_cases c7 : x9_1 < a0
     ·rw [if_pos c7] at H
      have c7b0 : decide (x9_1 < a0) = true := decide_eq_true c7
      clear c7
      by_cases c8 : 0 ≤ x9_1
      ·rw [if_pos c8] at H
       have c8b0 : decide (0 ≤ x9_1) = true := decide_eq_true c8
       clear c8
       by_cases c9 : x9_1 < (x3_1.length : Int)
       ·rw [if_pos c9] at H
        have c9b0 : decide (x9_1 < (x3_1.length : Int)) = true := decide_eq_true c9
        clear c9
        obtain ⟨y149, hy149⟩ : ∃ y_ : List Int, y_ = (x3_1.set (x9_1 : Int).toNat (wrap64 (a0 + x9_1))) := ⟨_, rfl⟩
        replace H : (if 0 ≤ (wrap64 (a0 + x9_1)) then (if (wrap64 (a0 + x9_1)) < (x3_1.length : Int) then (plait_identity.l0 k1 a0 (y149.set ((wrap64 (a0 + x9_1)) : Int).toNat x9_1) a0 (wrap64 (x9_1 + 1))) else (none)) else (none)) = some r := by first | (rw [hy149]; with_reducible exact H) | (have H2_ := (Option.bind_some _ _).symm.trans H; rw [hy149]; with_reducible exact H2_) | (have H2_ := (Option.bind_some _ _).symm.trans H; with_reducible exact H2_) | with_reducible exact H | (rw [hy149]; exact H) | exact H
        have Ny149 := Aside0.mk hy149
        clear hy149
        obtain ⟨ji11, hji11⟩ : ∃ j_ : Int, (wrap64 (a0 + x9_1)) = j_ := ⟨_, rfl⟩
        replace H : (if 0 ≤ (ji11) then (if (ji11) < (x3_1.length : Int) then (plait_identity.l0 k1 a0 (y149.set ((ji11) : Int).toNat x9_1) a0 (wrap64 (x9_1 + 1))) else (none)) else (none)) = some r := by first | (rw [hji11] at H; exact H) | (simp only [hji11] at H ⊢; exact H)
        (try rw [hji11] at Ny149)
        have hji11w : (IntKind.i64.wrap (a0 + x9_1)) = ji11 := (i64_w _).trans hji11
        by_cases c12 : 0 ≤ (ji11)
        ·rw [if_pos c12] at H
         have c12b0 : decide (0 ≤ (ji11)) = true := decide_eq_true c12
         clear c12
         by_cases c13 : (ji11) < (x3_1.length : Int)
         ·rw [if_pos c13] at H
          have c13b0 : decide ((ji11) < (x3_1.length : Int)) = true := decide_eq_true c13
          clear c13
          obtain ⟨y150, hy150⟩ : ∃ y_ : List Int, y_ = (y149.set ((ji11) : Int).toNat x9_1) := ⟨_, rfl⟩
          replace H : (plait_identity.l0 k1 a0 y150 a0 (wrap64 (x9_1 + 1))) = some r := by first | (rw [hy150]; with_reducible exact H) | (have H2_ := (Option.bind_some _ _).symm.trans H; rw [hy150]; with_reducible exact H2_) | (have H2_ := (Option.bind_some _ _).symm.trans H; with_reducible exact H2_) | with_reducible exact H | (rw [hy150]; exact H) | exact H
          have Ny150 := Aside0.mk hy150
          clear hy150
          have H' := Aside0.mk H
          clear H
          have p10 : 0 ≤ (x9_1 : Int) := of_decide_eq_true (by first | (with_reducible assumption) | assumption)
          have q10 : (x9_1 : Int) < ((x3_1.length : Int) : Int) := of_decide_eq_true (by first | (with_reducible assumption) | assumption)
          obtain ⟨go10, co10, eo10, gb10, gl10, cl10, HG10⟩ := Kd.R_form HO_3.out (by omega)
          (first | cases eo10 | (injection eo10 with ea_ en_ ec_; (first | subst ea_ | (injection ea_ with ea_; subst ea_)); subst ec_; clear en_))
          have GB10 := Aside0.mk gb10
          have GG10 := Aside0.mk HG10
          clear gb10 gl10 HG10
          obtain ⟨hx10_0, hf10_0⟩ := Kd.R_celln 0 HO_3.out (x9_1 : Int) p10 q10
          replace p10 := eq_true p10
          replace q10 := eq_true q10
          have HP15 := Kd.R_putg HO_3.out (x9_1 : Int) ji11
          go_wp2_with (first | ((with_reducible refine gate_store (t := 3) (p := 22) rfl ?_); refine store_event (t := 3) (p := 22) (v := ?vo_w16) (w1 := (wr.setCell ⟨go10, (x9_1 : Int).toNat, none⟩ (.int .i64 ji11))) ?hg ?ho ?hn ?hr ?_; (case ho => rfl); (case hg => rfl); (case hn => rfl); (case hr => first | (go_simp; done) | (go_simp; rfl)); intro w16 hw; have hg : wr.grownBy w16 (some go10) := (by rw [hw]; exact HP15.2); have hp_ : Kd.R (Kd.int .i64) 3 w16 w.heap.size (fun _ => True) (.slice (some ⟨go10, 0, none⟩) x3_1.length co10) y149 := (by rw [hw, Ny149.out]; exact HP15.1); clear HP15; have n0_ := Aside0.mk (hp_); have n1_ := Aside0.mk ((by rw [hw]; exact below_set (HB.out) GB10.out : Below w.heap.size w w16)); clear HO_3; clear HB; have HO_3 := n0_; have HB := n1_; clear n0_ n1_; clear hg hw hp_; have p14 : 0 ≤ ((ji11) : Int) := of_decide_eq_true (by first | (with_reducible assumption) | assumption); have q14 : ((ji11) : Int) < ((x3_1.length : Int) : Int) := of_decide_eq_true (by first | (with_reducible assumption) | assumption); obtain ⟨hx14_0, hf14_0⟩ := Kd.R_celln 0 HO_3.out ((ji11) : Int) p14 q14; replace p14 := eq_true p14; replace q14 := eq_true q14; obtain ⟨hy17_, hz17_⟩ := Kd.R_celln 0 HO_3.out ((ji11) : Int) (of_decide_eq_true (by first | (with_reducible assumption) | assumption)) (of_decide_eq_true (by first | (with_reducible assumption) | assumption)); have HP17 := Kd.R_putg HO_3.out ((ji11) : Int) x9_1) | ((with_reducible refine gate_store (t := 3) (p := 23) rfl ?_); refine store_event (t := 3) (p := 23) (v := ?vo_w18) (w1 := (w16.setCell ⟨go10, ((ji11) : Int).toNat, none⟩ (.int .i64 x9_1))) ?hg ?ho ?hn ?hr ?_; (case ho => rfl); (case hg => rfl); (case hn => rfl); (case hr => first | (go_simp; done) | (go_simp; rfl)); intro w18 hw; have hg : w16.grownBy w18 (some go10) := (by rw [hw]; exact HP17.2); have hp_ : Kd.R (Kd.int .i64) 3 w18 w.heap.size (fun _ => True) (.slice (some ⟨go10, 0, none⟩) x3_1.length co10) y150 := (by rw [hw, Ny150.out]; exact HP17.1); clear HP17; have n0_ := Aside0.mk (hp_); have n1_ := Aside0.mk ((by rw [hw]; exact below_set (HB.out) GB10.out : Below w.heap.size w w18)); clear HO_3; clear HB; have HO_3 := n0_; have HB := n1_; clear n0_ n1_; clear hg hw hp_))
          go_roundg k1
          case measure => have := HK1.out; omega
          case rel => exact ⟨(y150), (wrap64 (x9_1 + 1)), (by first | rfl | (simp; done) | (simp [*]; done)), H', ⟨by have := HK1.out; omega⟩, ⟨by (with_reducible repeat (first | apply Kd.R_alloc | apply Kd.R_drewN | apply Kd.R_drew)); exact HO_3.out⟩, ⟨by repeat (first | (with_reducible first | exact HB.out | apply below_alloc | apply pw_below_drewN | apply below_drew1) | exact HB.out)⟩⟩
         ·rw [if_neg c13] at H
          exact absurd H (by simp)
        ·rw [if_neg c12] at H
         exact absurd H (by simp)
       ·rw [if_neg c9] at H
        exact absurd H (by simp)
      ·rw [if_neg c8] at H
       exact absurd H (by simp)
     ·rw [if_neg c7] at H
      have c7b0 : decide (x9_1 < a0) = false := decide_eq_false c7
      clear c7
      obtain rfl := Option.some.inj H
      go_wp2
      go_ret
      exact ⟨_, by first | rfl | (simp [errW_none, errW_some] <;> rfl) | (simp only [← hji2]; first | rfl | (simp [errW_none, errW_some] <;> rfl)) | (simp [*, errW_none, errW_some] <;> rfl), by (with_reducible repeat (first | apply Kd.R_alloc | apply Kd.R_drewN | apply Kd.R_drew)); exact HO_3.out, by repeat (first | (with_reducible first | exact HB.out | apply below_alloc | apply pw_below_drewN | apply below_drew1) | exact HB.out)⟩
  ·rw [if_neg c4] at H
   exact absurd H (by simp)
 ·rw [if_neg c3] at H
  exact absurd H (by simp)
/-! ### plait_hook: function 77 -/
def plait_hook.f (k : Nat) (a0 : Int) (a1 : Int) : Option (List Int) := (plait_identity.f k a0).bind fun t151 => (if 0 ≤ a1 then (if a1 < (t151.length : Int) then (if 0 ≤ (wrap64 (a1 + 1)) then (if (wrap64 (a1 + 1)) < (t151.length : Int) then (if 0 ≤ (wrap64 (a0 + a1)) then (if (wrap64 (a0 + a1)) < (t151.length : Int) then (if 0 ≤ (wrap64 ((wrap64 (a0 + a1)) + 1)) then (if (wrap64 ((wrap64 (a0 + a1)) + 1)) < (t151.length : Int) then (some ((((t151.set (a1 : Int).toNat (wrap64 (a1 + 1))).set ((wrap64 (a1 + 1)) : Int).toNat a1).set ((wrap64 (a0 + a1)) : Int).toNat (wrap64 ((wrap64 (a0 + a1)) + 1))).set ((wrap64 ((wrap64 (a0 + a1)) + 1)) : Int).toNat (wrap64 (a0 + a1)))) else (none)) else (none)) else (none)) else (none)) else (none)) else (none)) else (none)) else (none))
theorem plait_hook.mono : ∀ a0 a1 k, LeO (plait_hook.f k a0 a1) (plait_hook.f (k + 1) a0 a1) := by
 intro a0 a1 k
 unfold plait_hook.f
 repeat' first
   | (with_reducible exact plait_identity.mono _ _)
   | (with_reducible exact LeO.refl _)
   | (with_reducible exact LeO.none _)
   | (with_reducible refine LeO.ite ?_ ?_)
   | (with_reducible refine LeO.bind ?_ (fun _ => ?_))
   | exact plait_identity.mono _ _
   | exact LeO.none _
   | refine LeO.ite ?_ ?_
   | refine LeO.bind ?_ (fun _ => ?_)
set_option maxHeartbeats 8000000 in
set_option maxRecDepth 100000 in
theorem plait_hook.calls (k : Nat) (a0 : Int) (a1 : Int) (r : List Int) (w : World) (h : plait_hook.f k a0 a1 = some r) :
  Calls Try.prog 77 #[.int .i64 a0, .int .i64 a1] w fun e w' => ∃ v0_ : Value, e = .returned (v0_) ∧ Kd.R (Kd.int .i64) 3 w' w.heap.size (fun _ => True) v0_ r ∧ Below w.heap.size w w' := by
 have HB := Aside0.mk (Below.refl w.heap.size w)
 have H : ((plait_identity.f k a0).bind fun t151 => (if 0 ≤ a1 then (if a1 < (t151.length : Int) then (if 0 ≤ (wrap64 (a1 + 1)) then (if (wrap64 (a1 + 1)) < (t151.length : Int) then (if 0 ≤ (wrap64 (a0 + a1)) then (if (wrap64 (a0 + a1)) < (t151.length : Int) then (if 0 ≤ (wrap64 ((wrap64 (a0 + a1)) + 1)) then (if (wrap64 ((wrap64 (a0 + a1)) + 1)) < (t151.length : Int) then (some ((((t151.set (a1 : Int).toNat (wrap64 (a1 + 1))).set ((wrap64 (a1 + 1)) : Int).toNat a1).set ((wrap64 (a0 + a1)) : Int).toNat (wrap64 ((wrap64 (a0 + a1)) + 1))).set ((wrap64 ((wrap64 (a0 + a1)) + 1)) : Int).toNat (wrap64 (a0 + a1)))) else (none)) else (none)) else (none)) else (none)) else (none)) else (none)) else (none)) else (none))) = some r := h
 clear h
 replace H := Option.bind_eq_some_iff.mp H
 obtain ⟨t151, A30, H⟩ := H
 replace H : (if 0 ≤ a1 then (if a1 < (t151.length : Int) then (if 0 ≤ (wrap64 (a1 + 1)) then (if (wrap64 (a1 + 1)) < (t151.length : Int) then (if 0 ≤ (wrap64 (a0 + a1)) then (if (wrap64 (a0 + a1)) < (t151.length : Int) then (if 0 ≤ (wrap64 ((wrap64 (a0 + a1)) + 1)) then (if (wrap64 ((wrap64 (a0 + a1)) + 1)) < (t151.length : Int) then (some ((((t151.set (a1 : Int).toNat (wrap64 (a1 + 1))).set ((wrap64 (a1 + 1)) : Int).toNat a1).set ((wrap64 (a0 + a1)) : Int).toNat (wrap64 ((wrap64 (a0 + a1)) + 1))).set ((wrap64 ((wrap64 (a0 + a1)) + 1)) : Int).toNat (wrap64 (a0 + a1)))) else (none)) else (none)) else (none)) else (none)) else (none)) else (none)) else (none)) else (none)) = some r := H
 have A3 := Aside0.mk A30
 clear A30
 by_cases c4 : 0 ≤ a1
 ·rw [if_pos c4] at H
  have c4b0 : decide (0 ≤ a1) = true := decide_eq_true c4
  clear c4
  by_cases c5 : a1 < (t151.length : Int)
  ·rw [if_pos c5] at H
   have c5b0 : decide (a1 < (t151.length : Int)) = true := decide_eq_true c5
   clear c5
   obtain ⟨y154, hy154⟩ : ∃ y_ : List Int, y_ = (t151.set (a1 : Int).toNat (wrap64 (a1 + 1))) := ⟨_, rfl⟩
   replace H : (if 0 ≤ (wrap64 (a1 + 1)) then (if (wrap64 (a1 + 1)) < (t151.length : Int) then (if 0 ≤ (wrap64 (a0 + a1)) then (if (wrap64 (a0 + a1)) < (t151.length : Int) then (if 0 ≤ (wrap64 ((wrap64 (a0 + a1)) + 1)) then (if (wrap64 ((wrap64 (a0 + a1)) + 1)) < (t151.length : Int) then (some (((y154.set ((wrap64 (a1 + 1)) : Int).toNat a1).set ((wrap64 (a0 + a1)) : Int).toNat (wrap64 ((wrap64 (a0 + a1)) + 1))).set ((wrap64 ((wrap64 (a0 + a1)) + 1)) : Int).toNat (wrap64 (a0 + a1)))) else (none)) else (none)) else (none)) else (none)) else (none)) else (none)) = some r := by first | (rw [hy154]; with_reducible exact H) | (have H2_ := (Option.bind_some _ _).symm.trans H; rw [hy154]; with_reducible exact H2_) | (have H2_ := (Option.bind_some _ _).symm.trans H; with_reducible exact H2_) | with_reducible exact H | (rw [hy154]; exact H) | exact H
   have Ny154 := Aside0.mk hy154
   clear hy154
   obtain ⟨ji7, hji7⟩ : ∃ j_ : Int, (wrap64 (a1 + 1)) = j_ := ⟨_, rfl⟩
   replace H : (if 0 ≤ (ji7) then (if (ji7) < (t151.length : Int) then (if 0 ≤ (wrap64 (a0 + a1)) then (if (wrap64 (a0 + a1)) < (t151.length : Int) then (if 0 ≤ (wrap64 ((wrap64 (a0 + a1)) + 1)) then (if (wrap64 ((wrap64 (a0 + a1)) + 1)) < (t151.length : Int) then (some (((y154.set ((ji7) : Int).toNat a1).set ((wrap64 (a0 + a1)) : Int).toNat (wrap64 ((wrap64 (a0 + a1)) + 1))).set ((wrap64 ((wrap64 (a0 + a1)) + 1)) : Int).toNat (wrap64 (a0 + a1)))) else (none)) else (none)) else (none)) else (none)) else (none)) else (none)) = some r := by first | (rw [hji7] at H; exact H) | (simp only [hji7] at H ⊢; exact H)
   (try rw [hji7] at A3)
   (try rw [hji7] at Ny154)
   have hji7w : (IntKind.i64.wrap (a1 + 1)) = ji7 := (i64_w _).trans hji7
   by_cases c8 : 0 ≤ (ji7)
   ·rw [if_pos c8] at H
    have c8b0 : decide (0 ≤ (ji7)) = true := decide_eq_true c8
    clear c8
    by_cases c9 : (ji7) < (t151.length : Int)
    ·rw [if_pos c9] at H
     have c9b0 : decide ((ji7) < (t151.length : Int)) = true := decide_eq_true c9
     clear c9
     obtain ⟨y155, hy155⟩ : ∃ y_ : List Int, y_ = (y154.set ((ji7) : Int).toNat a1) := ⟨_, rfl⟩
     replace H : (if 0 ≤ (wrap64 (a0 + a1)) then (if (wrap64 (a0 + a1)) < (t151.length : Int) then (if 0 ≤ (wrap64 ((wrap64 (a0 + a1)) + 1)) then (if (wrap64 ((wrap64 (a0 + a1)) + 1)) < (t151.length : Int) then (some ((y155.set ((wrap64 (a0 + a1)) : Int).toNat (wrap64 ((wrap64 (a0 + a1)) + 1))).set ((wrap64 ((wrap64 (a0 + a1)) + 1)) : Int).toNat (wrap64 (a0 + a1)))) else (none)) else (none)) else (none)) else (none)) = some r := by first | (rw [hy155]; with_reducible exact H) | (have H2_ := (Option.bind_some _ _).symm.trans H; rw [hy155]; with_reducible exact H2_) | (have H2_ := (Option.bind_some _ _).symm.trans H; with_reducible exact H2_) | with_reducible exact H | (rw [hy155]; exact H) | exact H
     have Ny155 := Aside0.mk hy155
     clear hy155
     obtain ⟨ji11, hji11⟩ : ∃ j_ : Int, (wrap64 (a0 + a1)) = j_ := ⟨_, rfl⟩
     replace H : (if 0 ≤ (ji11) then (if (ji11) < (t151.length : Int) then (if 0 ≤ (wrap64 ((ji11) + 1)) then (if (wrap64 ((ji11) + 1)) < (t151.length : Int) then (some ((y155.set ((ji11) : Int).toNat (wrap64 ((ji11) + 1))).set ((wrap64 ((ji11) + 1)) : Int).toNat (ji11))) else (none)) else (none)) else (none)) else (none)) = some r := by first | (rw [hji11] at H; exact H) | (simp only [hji11] at H ⊢; exact H)
     (try rw [hji11] at A3)
     have hji11w : (IntKind.i64.wrap (a0 + a1)) = ji11 := (i64_w _).trans hji11
     by_cases c12 : 0 ≤ (ji11)
     ·rw [if_pos c12] at H
      have c12b0 : decide (0 ≤ (ji11)) = true := decide_eq_true c12
      clear c12
      by_cases c13 : (ji11) < (t151.length : Int)
      ·rw [if_pos c13] at H
       have c13b0 : decide ((ji11) < (t151.length : Int)) = true := decide_eq_true c13
       clear c13
       obtain ⟨y156, hy156⟩ : ∃ y_ : List Int, y_ = (y155.set ((ji11) : Int).toNat (wrap64 ((ji11) + 1))) := ⟨_, rfl⟩
       replace H : (if 0 ≤ (wrap64 ((ji11) + 1)) then (if (wrap64 ((ji11) + 1)) < (t151.length : Int) then (some (y156.set ((wrap64 ((ji11) + 1)) : Int).toNat (ji11))) else (none)) else (none)) = some r := by first | (rw [hy156]; with_reducible exact H) | (have H2_ := (Option.bind_some _ _).symm.trans H; rw [hy156]; with_reducible exact H2_) | (have H2_ := (Option.bind_some _ _).symm.trans H; with_reducible exact H2_) | with_reducible exact H | (rw [hy156]; exact H) | exact H
       have Ny156 := Aside0.mk hy156
       clear hy156
       obtain ⟨ji15, hji15⟩ : ∃ j_ : Int, (wrap64 ((ji11) + 1)) = j_ := ⟨_, rfl⟩
       replace H : (if 0 ≤ (ji15) then (if (ji15) < (t151.length : Int) then (some (y156.set ((ji15) : Int).toNat (ji11))) else (none)) else (none)) = some r := by first | (rw [hji15] at H; exact H) | (simp only [hji15] at H ⊢; exact H)
       (try rw [hji15] at A3)
       (try rw [hji15] at Ny156)
       have hji15w : (IntKind.i64.wrap ((ji11) + 1)) = ji15 := (i64_w _).trans hji15
       by_cases c16 : 0 ≤ (ji15)
       ·rw [if_pos c16] at H
        have c16b0 : decide (0 ≤ (ji15)) = true := decide_eq_true c16
        clear c16
        by_cases c17 : (ji15) < (t151.length : Int)
        ·rw [if_pos c17] at H
         have c17b0 : decide ((ji15) < (t151.length : Int)) = true := decide_eq_true c17
         clear c17
         obtain ⟨y157, hy157⟩ : ∃ y_ : List Int, y_ = (y156.set ((ji15) : Int).toNat (ji11)) := ⟨_, rfl⟩
         replace H : (some y157) = some r := by first | (rw [hy157]; with_reducible exact H) | (have H2_ := (Option.bind_some _ _).symm.trans H; rw [hy157]; with_reducible exact H2_) | (have H2_ := (Option.bind_some _ _).symm.trans H; with_reducible exact H2_) | with_reducible exact H | (rw [hy157]; exact H) | exact H
         have Ny157 := Aside0.mk hy157
         clear hy157
         obtain rfl := Option.some.inj H
         go_enter Try.func77, Try.ntmps77
         go_wp2_with (first | ((with_reducible refine gate_callee (f := 76) rfl ?_); refine goesL_ (some 7) rfl rfl Try.func76 (by kernel_rfl) rfl #[.int .i64 a0] rfl (by (try simp only [List.map_toArray, List.map_cons, List.map_nil]); first | done | rfl | (simp only [List.length_drop, List.length_take]; rfl)) ?_; (with_reducible refine (plait_identity.calls k a0 t151 _ A3.out).mono ?_); rintro e w19 ⟨v152, rfl, ho0, hb⟩; refine ⟨_, rfl, ?_⟩; have n0_ := Aside0.mk (Kd.R_lower ho0 (below_size (by repeat (first | (with_reducible first | exact HB.out | apply below_alloc | apply pw_below_drewN | apply below_drew1) | exact HB.out)))); have n1_ := Aside0.mk (below_step (by repeat (first | (with_reducible first | exact HB.out | apply below_alloc | apply pw_below_drewN | apply below_drew1) | exact HB.out)) hb); clear HB; have HO153 := n0_; have HB := n1_; clear n0_ n1_; (try clear hb); (try clear hb2); (try clear hk); (try clear hi); (try clear ho0); have p6 : 0 ≤ (a1 : Int) := of_decide_eq_true (by first | (with_reducible assumption) | assumption); have q6 : (a1 : Int) < ((t151.length : Int) : Int) := of_decide_eq_true (by first | (with_reducible assumption) | assumption); obtain ⟨go6, co6, eo6, gb6, gl6, cl6, HG6⟩ := Kd.R_form HO153.out (by omega); (first | cases eo6 | (injection eo6 with ea_ en_ ec_; (first | subst ea_ | (injection ea_ with ea_; subst ea_)); subst ec_; clear en_)); have GB6 := Aside0.mk gb6; have GG6 := Aside0.mk HG6; clear gb6 gl6 HG6; obtain ⟨hx6_0, hf6_0⟩ := Kd.R_celln 0 HO153.out (a1 : Int) p6 q6; replace p6 := eq_true p6; replace q6 := eq_true q6; obtain ⟨hy20_, hz20_⟩ := Kd.R_celln 0 HO153.out (a1 : Int) (of_decide_eq_true (by first | (with_reducible assumption) | assumption)) (of_decide_eq_true (by first | (with_reducible assumption) | assumption)); have HP20 := Kd.R_putg HO153.out (a1 : Int) ji7) | ((with_reducible refine gate_store (t := 3) (p := 16) rfl ?_); refine store_event (t := 3) (p := 16) (v := ?vo_w21) (w1 := (w19.setCell ⟨go6, (a1 : Int).toNat, none⟩ (.int .i64 ji7))) ?hg ?ho ?hn ?hr ?_; (case ho => rfl); (case hg => rfl); (case hn => rfl); (case hr => first | (go_simp; done) | (go_simp; rfl)); intro w21 hw; have hg : w19.grownBy w21 (some go6) := (by rw [hw]; exact HP20.2); have hp_ : Kd.R (Kd.int .i64) 3 w21 w.heap.size (fun _ => True) (.slice (some ⟨go6, 0, none⟩) t151.length co6) y154 := (by rw [hw, Ny154.out]; exact HP20.1); clear HP20; have n0_ := Aside0.mk (hp_); have n1_ := Aside0.mk ((by rw [hw]; exact below_set (HB.out) GB6.out : Below w.heap.size w w21)); clear HO153; clear HB; have HO153 := n0_; have HB := n1_; clear n0_ n1_; clear hg hw hp_; have p10 : 0 ≤ ((ji7) : Int) := of_decide_eq_true (by first | (with_reducible assumption) | assumption); have q10 : ((ji7) : Int) < ((t151.length : Int) : Int) := of_decide_eq_true (by first | (with_reducible assumption) | assumption); obtain ⟨hx10_0, hf10_0⟩ := Kd.R_celln 0 HO153.out ((ji7) : Int) p10 q10; replace p10 := eq_true p10; replace q10 := eq_true q10; obtain ⟨hy22_, hz22_⟩ := Kd.R_celln 0 HO153.out ((ji7) : Int) (of_decide_eq_true (by first | (with_reducible assumption) | assumption)) (of_decide_eq_true (by first | (with_reducible assumption) | assumption)); have HP22 := Kd.R_putg HO153.out ((ji7) : Int) a1) | ((with_reducible refine gate_store (t := 3) (p := 17) rfl ?_); refine store_event (t := 3) (p := 17) (v := ?vo_w23) (w1 := (w21.setCell ⟨go6, ((ji7) : Int).toNat, none⟩ (.int .i64 a1))) ?hg ?ho ?hn ?hr ?_; (case ho => rfl); (case hg => rfl); (case hn => rfl); (case hr => first | (go_simp; done) | (go_simp; rfl)); intro w23 hw; have hg : w21.grownBy w23 (some go6) := (by rw [hw]; exact HP22.2); have hp_ : Kd.R (Kd.int .i64) 3 w23 w.heap.size (fun _ => True) (.slice (some ⟨go6, 0, none⟩) t151.length co6) y155 := (by rw [hw, Ny155.out]; exact HP22.1); clear HP22; have n0_ := Aside0.mk (hp_); have n1_ := Aside0.mk ((by rw [hw]; exact below_set (HB.out) GB6.out : Below w.heap.size w w23)); clear HO153; clear HB; have HO153 := n0_; have HB := n1_; clear n0_ n1_; clear hg hw hp_; have p14 : 0 ≤ ((ji11) : Int) := of_decide_eq_true (by first | (with_reducible assumption) | assumption); have q14 : ((ji11) : Int) < ((t151.length : Int) : Int) := of_decide_eq_true (by first | (with_reducible assumption) | assumption); obtain ⟨hx14_0, hf14_0⟩ := Kd.R_celln 0 HO153.out ((ji11) : Int) p14 q14; replace p14 := eq_true p14; replace q14 := eq_true q14; obtain ⟨hy24_, hz24_⟩ := Kd.R_celln 0 HO153.out ((ji11) : Int) (of_decide_eq_true (by first | (with_reducible assumption) | assumption)) (of_decide_eq_true (by first | (with_reducible assumption) | assumption)); have HP24 := Kd.R_putg HO153.out ((ji11) : Int) ji15) | ((with_reducible refine gate_store (t := 3) (p := 34) rfl ?_); refine store_event (t := 3) (p := 34) (v := ?vo_w25) (w1 := (w23.setCell ⟨go6, ((ji11) : Int).toNat, none⟩ (.int .i64 ji15))) ?hg ?ho ?hn ?hr ?_; (case ho => rfl); (case hg => rfl); (case hn => rfl); (case hr => first | (go_simp; done) | (go_simp; rfl)); intro w25 hw; have hg : w23.grownBy w25 (some go6) := (by rw [hw]; exact HP24.2); have hp_ : Kd.R (Kd.int .i64) 3 w25 w.heap.size (fun _ => True) (.slice (some ⟨go6, 0, none⟩) t151.length co6) y156 := (by rw [hw, Ny156.out]; exact HP24.1); clear HP24; have n0_ := Aside0.mk (hp_); have n1_ := Aside0.mk ((by rw [hw]; exact below_set (HB.out) GB6.out : Below w.heap.size w w25)); clear HO153; clear HB; have HO153 := n0_; have HB := n1_; clear n0_ n1_; clear hg hw hp_; have p18 : 0 ≤ ((ji15) : Int) := of_decide_eq_true (by first | (with_reducible assumption) | assumption); have q18 : ((ji15) : Int) < ((t151.length : Int) : Int) := of_decide_eq_true (by first | (with_reducible assumption) | assumption); obtain ⟨hx18_0, hf18_0⟩ := Kd.R_celln 0 HO153.out ((ji15) : Int) p18 q18; replace p18 := eq_true p18; replace q18 := eq_true q18; obtain ⟨hy26_, hz26_⟩ := Kd.R_celln 0 HO153.out ((ji15) : Int) (of_decide_eq_true (by first | (with_reducible assumption) | assumption)) (of_decide_eq_true (by first | (with_reducible assumption) | assumption)); have HP26 := Kd.R_putg HO153.out ((ji15) : Int) ji11) | ((with_reducible refine gate_store (t := 3) (p := 35) rfl ?_); refine store_event (t := 3) (p := 35) (v := ?vo_w27) (w1 := (w25.setCell ⟨go6, ((ji15) : Int).toNat, none⟩ (.int .i64 ji11))) ?hg ?ho ?hn ?hr ?_; (case ho => rfl); (case hg => rfl); (case hn => rfl); (case hr => first | (go_simp; done) | (go_simp; rfl)); intro w27 hw; have hg : w25.grownBy w27 (some go6) := (by rw [hw]; exact HP26.2); have hp_ : Kd.R (Kd.int .i64) 3 w27 w.heap.size (fun _ => True) (.slice (some ⟨go6, 0, none⟩) t151.length co6) y157 := (by rw [hw, Ny157.out]; exact HP26.1); clear HP26; have n0_ := Aside0.mk (hp_); have n1_ := Aside0.mk ((by rw [hw]; exact below_set (HB.out) GB6.out : Below w.heap.size w w27)); clear HO153; clear HB; have HO153 := n0_; have HB := n1_; clear n0_ n1_; clear hg hw hp_))
         go_ret
         exact ⟨_, by first | rfl | (simp [errW_none, errW_some] <;> rfl) | (simp only [← hji7, ← hji11, ← hji15]; first | rfl | (simp [errW_none, errW_some] <;> rfl)) | (simp [*, errW_none, errW_some] <;> rfl), by (with_reducible repeat (first | apply Kd.R_alloc | apply Kd.R_drewN | apply Kd.R_drew)); exact HO153.out, by repeat (first | (with_reducible first | exact HB.out | apply below_alloc | apply pw_below_drewN | apply below_drew1) | exact HB.out)⟩
        ·rw [if_neg c17] at H
         exact absurd H (by simp)
       ·rw [if_neg c16] at H
        exact absurd H (by simp)
      ·rw [if_neg c13] at H
       exact absurd H (by simp)
     ·rw [if_neg c12] at H
      exact absurd H (by simp)
    ·rw [if_neg c9] at H
     exact absurd H (by simp)
   ·rw [if_neg c8] at H
    exact absurd H (by simp)
  ·rw [if_neg c5] at H
   exact absurd H (by simp)
 ·rw [if_neg c4] at H
  exact absurd H (by simp)
/-! ### plait_diagram_int_89: function 89 -/
def plait_diagram_int_89.f (l0 : List Int) : Option (List Int) := (some (([] : List Int) : List Int)).bind fun y158 => (if y158.length + l0.length < 17592186044416 then (some (y158 ++ l0)) else (none))
set_option maxHeartbeats 8000000 in
set_option maxRecDepth 100000 in
theorem plait_diagram_int_89.calls (A0 : Option Addr) (c0 : Nat) (l0 : List Int) (r : List Int) (w : World) (hr0 : Kd.C (Kd.int .i64) w A0 l0.length l0) (hc0 : l0.length ≤ c0) (hne : A0.isNone = false) (h : plait_diagram_int_89.f l0 = some r) :
  Calls Try.prog 89 #[.slice A0 l0.length c0] w fun e w' => ∃ v0_ : Value, e = .returned (v0_) ∧ Kd.R (Kd.int .i64) 3 w' w.heap.size (fun _ => True) v0_ r ∧ Below w.heap.size w w' := by
 have HR0 := Aside0.mk hr0
 have HC0 := Aside0.mk hc0
 clear hr0 hc0
 have HB := Aside0.mk (Below.refl w.heap.size w)
 have H : ((some (([] : List Int) : List Int)).bind fun y158 => (if y158.length + l0.length < 17592186044416 then (some (y158 ++ l0)) else (none))) = some r := h
 clear h
 have hnil := fun (W : World) => Lib.run_eql_slice_nil (P := Try.prog) W 65 3 A0 l0.length c0 0 0 Try.underlying65
 simp only [hne] at hnil
 obtain ⟨y158, hy158⟩ : ∃ y_ : List Int, y_ = (([] : List Int)) := ⟨_, rfl⟩
 replace H : (if y158.length + l0.length < 17592186044416 then (some (y158 ++ l0)) else (none)) = some r := by first | (rw [hy158]; with_reducible exact H) | (have H2_ := (Option.bind_some _ _).symm.trans H; rw [hy158]; with_reducible exact H2_) | (have H2_ := (Option.bind_some _ _).symm.trans H; with_reducible exact H2_) | with_reducible exact H | (rw [hy158]; exact H) | exact H
 have Ny158 := Aside0.mk hy158
 clear hy158
 by_cases c2 : y158.length + l0.length < 17592186044416
 ·rw [if_pos c2] at H
  have LMc2 := Aside0.mk c2
  clear c2
  obtain ⟨y161, hy161⟩ : ∃ y_ : List Int, y_ = (y158 ++ l0) := ⟨_, rfl⟩
  replace H : (some y161) = some r := by first | (rw [hy161]; with_reducible exact H) | (have H2_ := (Option.bind_some _ _).symm.trans H; rw [hy161]; with_reducible exact H2_) | (have H2_ := (Option.bind_some _ _).symm.trans H; with_reducible exact H2_) | with_reducible exact H | (rw [hy161]; exact H) | exact H
  have Ny161 := Aside0.mk hy161
  clear hy161
  obtain rfl := Option.some.inj H
  go_enter Try.func89, Try.ntmps89
  go_wp2_with (first | ((with_reducible refine gate_dst (N := 5) rfl ?_); refine Kd.R_lit (Kd.int .i64) _ 3 ?hg (N := 5) ?hd (xs := ([] : List Int)) (inner := []) (ok := fun _ => True) (okp := fun _ => True) ?hr ?hp (fun _ hk => hk) trivial (Below.refl _ _) (Nat.le_refl _) (by simp) ?_; (case hd => rfl); (case hg => rfl); (case hr => first | (go_simp; done) | (go_simp; rfl)); (case hp => exact (Reps.none _ _)); intro v159 w3 ho4 hb hg_ hnew_; clear hg_ hnew_; (first | rw [← Ny158.out] at ho4 | (simp only [Int.reduceToNat] at ho4; rw [← Ny158.out] at ho4)); have n0_ := Aside0.mk (Kd.R_lower ho4 (below_size (by repeat (first | (with_reducible first | exact HB.out | apply below_alloc | apply pw_below_drewN | apply below_drew1) | exact HB.out)))); have n1_ := Aside0.mk (below_step (by repeat (first | (with_reducible first | exact HB.out | apply below_alloc | apply pw_below_drewN | apply below_drew1) | exact HB.out)) hb); clear HB; have HO160 := n0_; have HB := n1_; clear n0_ n1_; clear hb ho4) | ((with_reducible refine gate_builtin (b := .append) (xs := #[.tmp 5, .tmp 6]) rfl ?_); at_builtin; refine Kd.R_append_rows (Kd.int .i64) (w0 := w) w.heap.size rfl (.tmp 5) (.tmp 6) 65 3 (.int .i64 0) 8 rfl Try.underlying65 info3 rfl (by decide) (by omega) v159 y158 l0 _ _ _ (fun _ => True) (fun _ => False) rfl rfl ?aO ?aR (fun _ _ h => h) (fun _ h => h.elim) ?aF ?aB ?aS ?aL ?_; (case aR => repeat (first | exact (Kd.C_below HR0.out HB.out) | (with_reducible refine Kd.C_alloc ?_ _) | (with_reducible refine Kd.C_drewN ?_ _) | (with_reducible refine Kd.C_drew ?_))); (case aB => exact (by repeat (first | (with_reducible first | exact HB.out | apply below_alloc | apply pw_below_drewN | apply below_drew1) | exact HB.out))); (case aF => exact (fun _ _ => trivial)); (case aO => exact (by (with_reducible repeat (first | apply Kd.R_alloc | apply Kd.R_drewN | apply Kd.R_drew)); exact HO160.out)); (case aS => exact (below_size (by repeat (first | (with_reducible first | exact HB.out | apply below_alloc | apply pw_below_drewN | apply below_drew1) | exact HB.out)))); (case aL => have := LMc2.out; omega); intro v162 w5 ho hb hg hat; rw [← Ny161.out] at ho; have n0_ := Aside0.mk (hb); have n1_ := Aside0.mk (ho); clear HB; clear HO160; have HB := n0_; have HO163 := n1_; clear n0_ n1_; clear ho hb hg hat))
  go_ret
  exact ⟨_, by first | rfl | (simp [errW_none, errW_some] <;> rfl) | (simp [*, errW_none, errW_some] <;> rfl), by (with_reducible repeat (first | apply Kd.R_alloc | apply Kd.R_drewN | apply Kd.R_drew)); exact HO163.out, by repeat (first | (with_reducible first | exact HB.out | apply below_alloc | apply pw_below_drewN | apply below_drew1) | exact HB.out)⟩
 ·rw [if_neg c2] at H
  exact absurd H (by simp)
end Go.Proofs.Ytjfkompfkgjdaaa.PC
end
section
namespace Go.Proofs.Ytjfkompfkgjdaaa.PC
open Go.RowKit Go.Proofs.YtjfkompfkgjdaaaW.PrintWords Go.Proofs.YtjfkompfkgjdaaaW.PrintLast Go.Proofs.YtjfkompfkgjdaaaW.PrintMore
attribute [local go_sem] max2_int min2_int max_two min_two max_three min_three max_four min_four   -- for this text's walks alone
set_option linter.unusedVariables false
set_option linter.unusedSimpArgs false
/-! ### plait_diagram_product: function 66 -/
def plait_diagram_product.f (l0 : List Int) (l1 : List Int) : Option (List Int × Int) :=
 if l0.length = l1.length ∧ l0.length = 2 * (l0.length / 2) ∧ l0.length ≤ 1000 then
  (plait_ways l0 l1 (l0.length / 2) (l0.length / 2) 0 (List.replicate l0.length 0) (List.replicate (l0.length / 2) false)).bind fun r =>
   (plait_loops l0 l1 (l0.length / 2) (l0.length / 2) 0 0 r.2).bind fun many => some (r.1, (many : Int))
 else none
theorem plait_diagram_product.calls (A0 : Option Addr) (c0 : Nat) (l0 : List Int) (A1 : Option Addr) (c1 : Nat) (l1 : List Int) (r1 : List Int) (r2 : Int) (w : World) (hr0 : Kd.C (Kd.int .i64) w A0 l0.length l0) (hc0 : l0.length ≤ c0) (hr1 : Kd.C (Kd.int .i64) w A1 l1.length l1) (hc1 : l1.length ≤ c1) (h : plait_diagram_product.f l0 l1 = some (r1, r2)) :
  Calls Try.prog 66 #[.slice A0 l0.length c0, .slice A1 l1.length c1] w fun e w' => ∃ v0_ : Value, e = .returned (.tuple #[v0_, .int .i64 r2]) ∧ Kd.R (Kd.int .i64) 3 w' w.heap.size (fun _ => True) v0_ r1 ∧ Below w.heap.size w w' := by
 unfold plait_diagram_product.f at h
 by_cases c : l0.length = l1.length ∧ l0.length = 2 * (l0.length / 2) ∧ l0.length ≤ 1000
 ·rw [if_pos c] at h
  obtain ⟨c1_, c2_, c3_⟩ := c
  obtain ⟨⟨out, T⟩, ha, h⟩ := Option.bind_eq_some_iff.1 h
  obtain ⟨many, hb, h⟩ := Option.bind_eq_some_iff.1 h
  have h := Option.some.inj h
  obtain ⟨rfl, rfl⟩ := Prod.mk.inj h
  rw [← c1_] at hr1 ⊢
  refine (product_walk A0 c0 l0 A1 c1 l1 (l0.length / 2) l0.length w hr0 hr1 rfl c1_.symm c2_ (by omega) out T many ha hb).mono ?_
  rintro e w' ⟨rfl, T', hP⟩
  have hl := hP.flen
  have hR := R_of_ints (base := w.heap.size) hP.fout (by omega) (by omega)
  rw [hl] at hR
  exact ⟨_, rfl, hR, hP.below⟩
 ·rw [if_neg c] at h
  cases h
end Go.Proofs.Ytjfkompfkgjdaaa.PC
end
section
/- The diagram that a hook on top of it leads to another one, as the program finds it: plain. -/
namespace Go.Proofs.Ytjfkompfkgjdaaa.PC
open Go.RowKit Go.Proofs.YtjfkompfkgjdaaaW.PrintWords Go.Proofs.YtjfkompfkgjdaaaW.PrintLast Go.Proofs.YtjfkompfkgjdaaaW.PrintMore
/-- an arch opened: its ends take the places of the ends of another strand -/
def plait_open (d : List Int) (p q e0 e1 : Int) : List Int := (((d.set e0.toNat p).set p.toNat e0).set e1.toNat q).set q.toNat e1
/-- is it the one? -/
def plait_try (k : Nat) (d : List Int) (n : Nat) (i want : Int) (o : List Int) : Option (Option (List Int)) :=
  (plait_diagram_arches.f k o).bind fun a => if a.2 = true then ((plait_diagram_height.f k o).bind fun h => if h = want then ((plait_hook.f k (n : Int) i).bind fun hk => (plait_diagram_product.f hk o).bind fun b => if b.2 = 0 then ((plait_diagram_int_69.f k b.1 d).bind fun eq => if eq = true then some (some o) else some none) else some none) else some none) else some none
def plait_ends (k : Nat) (d : List Int) (n : Nat) (i want p q : Int) : Nat → Option (Option (List Int))
  | 0 => (plait_try k d n i want (plait_open d p q i (i + 1))).bind fun r => if r.isSome = true then some r else ((plait_try k d n i want (plait_open d p q (i + 1) i)).bind fun s => some s)
  | 1 => (plait_try k d n i want (plait_open d p q (i + 1) i)).bind fun s => some s
  | _ => some none
def plait_search (k : Nat) (d : List Int) (n : Nat) (i want : Int) : Nat → Nat → Option (List Int)
  | 0, _ => some []
  | m + 1, p =>
    if (p : Int) = i ∨ (p : Int) = i + 1 ∨ rd d (p : Int) = i ∨ rd d (p : Int) = i + 1 then plait_search k d n i want m (p + 1)
    else if 0 ≤ rd d (p : Int) ∧ rd d (p : Int) < (d.length : Int) then ((plait_ends k d n i want (p : Int) (rd d (p : Int)) 0).bind fun r => if r.isSome = true then some (r.getD []) else plait_search k d n i want m (p + 1))
    else none
def plait_short (k : Nat) (l0 : List Int) (a1 : Int) : Option (List Int) :=
  if l0.length = 2 * (l0.length / 2) ∧ l0.length ≤ 1000 ∧ 0 ≤ a1 ∧ a1 + 1 < ((l0.length / 2 : Nat) : Int) then
    (if rd l0 a1 = a1 + 1 then ((plait_diagram_height.f k l0).bind fun ht => plait_search k l0 (l0.length / 2) a1 (wrap64 (ht - 1)) (2 * (l0.length / 2)) 0) else some [])
  else none
/-- the first hook that leads on -/
def plait_pick (k : Nat) (d : List Int) : Nat → Nat → Option (Option (Nat × List Int))
  | 0, _ => some none
  | c + 1, i => (plait_short k d (i : Int)).bind fun o => if o = [] then plait_pick k d c (i + 1) else some (some (i, o))
def plait_wordGo (k : Nat) : Nat → List Int → List Int → Option (List Int)
  | 0, _, _ => none
  | m + 1, d, out =>
    if d.length = 2 * (d.length / 2) ∧ d.length ≤ 1000 ∧ 0 < d.length then
      (plait_diagram_height.f k d).bind fun h => if h > 0 then ((plait_pick k d (d.length / 2 - 1) 0).bind fun r => if r.isSome = true then plait_wordGo k m (r.getD (0, [])).2 (out ++ [(((r.getD (0, [])).1 : Nat) : Int)]) else none) else some out
    else none
theorem plait_try_mono (k : Nat) (d : List Int) (n : Nat) (i want : Int) (o : List Int) : LeO (plait_try k d n i want o) (plait_try (k + 1) d n i want o) := by
  unfold plait_try
  exact LeO.bind (plait_diagram_arches.mono _ k) fun _ => LeO.ite (LeO.bind (plait_diagram_height.mono _ k) fun _ => LeO.ite (LeO.bind (plait_hook.mono _ _ k) fun _ => LeO.bind (LeO.refl _) fun _ => LeO.ite (LeO.bind (plait_diagram_int_69.mono _ _ k) fun _ => LeO.refl _) (LeO.refl _)) (LeO.refl _)) (LeO.refl _)
theorem plait_ends_mono (k : Nat) (d : List Int) (n : Nat) (i want p q : Int) : ∀ j, LeO (plait_ends k d n i want p q j) (plait_ends (k + 1) d n i want p q j)
  | 0 => by
    simp only [plait_ends]
    exact LeO.bind (plait_try_mono _ _ _ _ _ _) fun _ => LeO.ite (LeO.refl _) (LeO.bind (plait_try_mono _ _ _ _ _ _) fun _ => LeO.refl _)
  | 1 => by
    simp only [plait_ends]
    exact LeO.bind (plait_try_mono _ _ _ _ _ _) fun _ => LeO.refl _
  | _ + 2 => by simp only [plait_ends]; exact LeO.refl _
theorem plait_search_mono (k : Nat) (d : List Int) (n : Nat) (i want : Int) : ∀ m p, LeO (plait_search k d n i want m p) (plait_search (k + 1) d n i want m p)
  | 0, _ => by simp only [plait_search]; exact LeO.refl _
  | m + 1, p => by
    simp only [plait_search]
    exact LeO.ite (plait_search_mono k d n i want m _) (LeO.ite (LeO.bind (plait_ends_mono _ _ _ _ _ _ _ _) fun _ => LeO.ite (LeO.refl _) (plait_search_mono k d n i want m _)) (LeO.refl _))
theorem plait_short_mono (k : Nat) (l0 : List Int) (a1 : Int) : LeO (plait_short k l0 a1) (plait_short (k + 1) l0 a1) := by
  unfold plait_short
  exact LeO.ite (LeO.ite (LeO.bind (plait_diagram_height.mono _ k) fun _ => plait_search_mono _ _ _ _ _ _ _) (LeO.refl _)) (LeO.refl _)
theorem plait_pick_mono (k : Nat) (d : List Int) : ∀ c i, LeO (plait_pick k d c i) (plait_pick (k + 1) d c i)
  | 0, _ => by simp only [plait_pick]; exact LeO.refl _
  | c + 1, i => by
    simp only [plait_pick]
    exact LeO.bind (plait_short_mono _ _ _) fun _ => LeO.ite (plait_pick_mono k d c _) (LeO.refl _)
theorem plait_wordGo_mono (k : Nat) : ∀ m d out, LeO (plait_wordGo k m d out) (plait_wordGo (k + 1) m d out)
  | 0, _, _ => by simp only [plait_wordGo]; exact LeO.refl _
  | m + 1, d, out => by
    simp only [plait_wordGo]
    exact LeO.ite (LeO.bind (plait_diagram_height.mono _ k) fun _ => LeO.ite (LeO.bind (plait_pick_mono _ _ _ _) fun _ => LeO.ite (plait_wordGo_mono k m _ _) (LeO.refl _)) (LeO.refl _)) (LeO.refl _)
end Go.Proofs.Ytjfkompfkgjdaaa.PC
end
section
/- shorter: the walk. -/
namespace Go.Proofs.Ytjfkompfkgjdaaa.PC
open Go.RowKit Go.Proofs.YtjfkompfkgjdaaaW.PrintWords Go.Proofs.YtjfkompfkgjdaaaW.PrintLast Go.Proofs.YtjfkompfkgjdaaaW.PrintMore
/-- what is handed back: nothing, or a list of the call's own -/
def Handed1 (w0 w' : World) (v : Value) (r : List Int) : Prop := (r = [] ∧ v = .slice none 0 0) ∨ (r ≠ [] ∧ Kd.R (Kd.int .i64) 3 w' w0.heap.size (fun _ => True) v r)
/-- the list that is tried, and the two ends -/
structure OS (w0 : World) (E G cap len T : Nat) (e0 e1 : Int) (o : List Int) (W : World) : Prop where
  below : Below w0.heap.size w0 W
  row : Kd.R (Kd.int .i64) 3 W w0.heap.size (fun k => k ≠ E) (.slice (some ⟨G, 0, none⟩) len cap) o
  arr : W.heap[E]? = some (.cells #[.int .i64 e0, .int .i64 e1] T (0, 0))
  hG : w0.heap.size ≤ G
theorem OS.ne {w0 : World} {E G cap len T : Nat} {e0 e1 : Int} {o : List Int} {W : World} (h : OS w0 E G cap len T e0 e1 o W) : G ≠ E := h.row.1 G (by simp [Value.ownBlock])
theorem OS.put {w0 : World} {E G cap len T : Nat} {e0 e1 : Int} {o : List Int} {W : World} (h : OS w0 E G cap len T e0 e1 o W) (i x : Int) : OS w0 E G cap len T e0 e1 (o.set i.toNat x) (W.setCell ⟨G, i.toNat, none⟩ (.int .i64 x)) :=
  ⟨h.below.setCell (p := ⟨G, i.toNat, none⟩) h.hG _, (Kd.R_putg h.row i x).1, (Below.heap_setCell W _ _ E (Ne.symm h.ne)).trans h.arr, h.hG⟩
theorem OS.cell {w0 : World} {E G cap len T : Nat} {e0 e1 : Int} {o : List Int} {W : World} (h : OS w0 E G cap len T e0 e1 o W) (i : Int) (h0 : 0 ≤ i) (h1 : i < (len : Int)) : W.cell? ⟨G, i.toNat, none⟩ = some (.int .i64 (rdOf 0 o i)) ∧ W.frozen? ⟨G, i.toNat, none⟩ = false := Kd.R_celln 0 h.row i h0 h1
theorem OS.end0 {w0 : World} {E G cap len T : Nat} {e0 e1 : Int} {o : List Int} {W : World} (h : OS w0 E G cap len T e0 e1 o W) : W.cell? ⟨E, 0, none⟩ = some (.int .i64 e0) := by simp [World.cell?, h.arr]
theorem OS.end1 {w0 : World} {E G cap len T : Nat} {e0 e1 : Int} {o : List Int} {W : World} (h : OS w0 E G cap len T e0 e1 o W) : W.cell? ⟨E, 1, none⟩ = some (.int .i64 e1) := by simp [World.cell?, h.arr]
theorem OS.drew {w0 : World} {E G cap len T : Nat} {e0 e1 : Int} {o : List Int} {W : World} (h : OS w0 E G cap len T e0 e1 o W) : OS w0 E G cap len T e0 e1 o W.drew := ⟨h.below.drew, Kd.R_drew h.row, h.arr, h.hG⟩
theorem OS.later {w0 : World} {E G cap len T : Nat} {e0 e1 : Int} {o : List Int} {W W' : World} (h : OS w0 E G cap len T e0 e1 o W) (hb : Below W.heap.size W W') : OS w0 E G cap len T e0 e1 o W' :=
  ⟨h.below.trans (hb.mono h.below.size), Kd.R_below h.row hb, (hb.block E (Array.getElem?_eq_some_iff.1 h.arr).1).trans h.arr, h.hG⟩
theorem OS.len {w0 : World} {E G cap len T : Nat} {e0 e1 : Int} {o : List Int} {W : World} (h : OS w0 E G cap len T e0 e1 o W) : o.length = len := (Kd.R_reads' h.row).1.symm
theorem OS.read {w0 : World} {E G cap len T : Nat} {e0 e1 : Int} {o : List Int} {W : World} (h : OS w0 E G cap len T e0 e1 o W) : Kd.C (Kd.int .i64) W (some ⟨G, 0, none⟩) len o := by have := (Kd.R_reads' h.row).2.2; rwa [h.len] at this
theorem OS.start {w0 wp w2 : World} {len T : Nat} {e0 e1 : Int} {o : List Int} {v : Value} (h0 : Below w0.heap.size w0 wp) (hR : Kd.R (Kd.int .i64) 3 w2 (wp.alloc (.cells #[.int .i64 e0, .int .i64 e1] T)).heap.size (fun _ => True) v o) (hb : Below (wp.alloc (.cells #[.int .i64 e0, .int .i64 e1] T)).heap.size (wp.alloc (.cells #[.int .i64 e0, .int .i64 e1] T)) w2) (hl : o.length = len) (hp : 0 < len) :
    ∃ G cap, v = .slice (some ⟨G, 0, none⟩) len cap ∧ len ≤ cap ∧ OS w0 wp.heap.size G cap len T e0 e1 o w2 := by
  have hs : (wp.alloc (.cells #[.int .i64 e0, .int .i64 e1] T)).heap.size = wp.heap.size + 1 := by simp
  obtain ⟨G, cap, rfl, hg, _, _⟩ := Kd.R_form hR (by omega)
  have hc := (Kd.R_reads' hR).2.1
  have h3 := h0.size
  rw [hl] at hR hc ⊢
  refine ⟨G, cap, rfl, hc, (h0.trans ((Below.refl _ wp).alloc h3 _)).trans (hb.mono (by omega)), ?_, (hb.block _ (by omega)).trans (heap_alloc_new _ _), by omega⟩
  exact Kd.R_lower (Kd.R_mono (Kd.R_bound hR) (fun k hk => by have := hk.2.1; omega)) (by omega)
theorem ends_first (a b c d : Int) (w : World) : (Instr.index 113 (.agg #[.int .i64 a, .int .i64 b, .int .i64 c, .int .i64 d]) (.int .i64 0)).run Try.prog w = .ok (.agg #[.int .i64 a, .int .i64 b]) w := by kernel_rfl
theorem ends_second (a b c d : Int) (w : World) : (Instr.index 113 (.agg #[.int .i64 a, .int .i64 b, .int .i64 c, .int .i64 d]) (.int .i64 1)).run Try.prog w = .ok (.agg #[.int .i64 c, .int .i64 d]) w := by kernel_rfl
set_option maxHeartbeats 4000000 in
set_option maxRecDepth 100000 in
theorem shorter_walk (k : Nat) (a0 : Addr) (c0 : Nat) (l0 : List Int) (n len : Nat) (i : Int) (w : World) (hr0 : Kd.C (Kd.int .i64) w (some a0) len l0) (hc0 : len ≤ c0) (hl0 : l0.length = len) (hlen : len = 2 * n) (hn : n ≤ 500) (hi0 : 0 ≤ i) (hi : i + 1 < (n : Int))
    (h1 : rd l0 i = i + 1) (ht : Int) (h2 : plait_diagram_height.f k l0 = some ht) (r : List Int) (h3 : plait_search k l0 n i (wrap64 (ht - 1)) (2 * n) 0 = some r) :
    Calls Try.prog 79 #[.slice (some a0) len c0, .int .i64 i] w fun e w' => ∃ v, e = .returned v ∧ Handed1 w w' v r ∧ Below w.heap.size w w' := by
  have HR0 := Lib.hid hr0
  have HC0 := Lib.hid hc0
  have HL0 := Lib.hid hl0
  have HLN := Lib.hid hlen
  have H2 := Lib.hid h2
  have hcl := plait_diagram_height.calls k (some a0) c0 l0 ht
  rw [hl0] at hcl
  have HCL := Lib.hid hcl
  obtain ⟨ad, e0, hx0⟩ := Kd.at_int hr0 i hi0 (by omega)
  rw [h1] at hx0
  have e0' := Option.some.inj e0
  subst e0'
  have hsz := size_same (some a0) c0 len n
  have HSZ := Lib.hid hsz
  have q1 : i < (len : Int) := by omega
  obtain ⟨want, hwant⟩ : ∃ x, wrap64 (ht - 1) = x := ⟨_, rfl⟩
  rw [hwant] at h3
  have H3 := Lib.hid h3
  clear hr0 hc0 hl0 hlen h1 h2 h3 hsz e0 hcl
  go_enter Try.func79, Try.ntmps79
  go_wp2_with (first | (go_at_call 72; refine (HSZ.out _ HLN.out (by omega)).mono ?_; rintro e w' ⟨rfl, rfl⟩) | (go_at_call 78; refine (HCL.out _ HR0.out HC0.out H2.out).mono ?_; rintro e w' ⟨rfl, ⟨nd, rfl⟩⟩))
  have HB := Lib.hid (pw_below_drewN (Below.refl w.heap.size w) nd)
  obtain ⟨w1, hw1⟩ : ∃ w1, w.drewN nd = w1 := ⟨_, rfl⟩
  rw [hw1] at HB ⊢
  rw [hwant]
  clear hwant hw1 hx0
  go_loopw [30] (fun t w' => ∃ p : Nat, p ≤ 2 * n ∧ t = .int .i64 (p : Int) ∧ Hid (plait_search k l0 n i want (2 * n - p) p = some r) ∧ Hid (Below w.heap.size w w')) (fun t _ => 2 * n - (intOf t).toNat)
  case atStart => exact ⟨0, Nat.zero_le _, rfl, H3, HB⟩
  case round =>
    obtain ⟨p, hp, rfl, HA, HB1⟩ := hrel
    clear H3 HB
    obtain ⟨wo, rfl⟩ : ∃ wo : World, wo = wr := ⟨_, rfl⟩
    by_cases hlt : p < 2 * n
    · have d1 : decide ((p : Int) < 2 * (n : Int)) = true := decide_eq_true (by omega)
      have p1 : (p : Int) < (len : Int) := by have := HLN.out; omega
      obtain ⟨ad, e0, hx0⟩ := Kd.at_int (Kd.C_below HR0.out HB1.out) (p : Int) (by omega) p1
      have e0' := Option.some.inj e0
      subst e0'
      rw [Int.toNat_natCast] at hx0
      have h := HA.out
      rw [show 2 * n - p = (2 * n - (p + 1)) + 1 by omega] at h
      simp only [plait_search] at h
      obtain ⟨q, hq⟩ : ∃ q, rd l0 (p : Int) = q := ⟨_, rfl⟩
      rw [hq] at h hx0
      have HQ := Lib.hid hq
      clear hq e0 HA
      by_cases t1 : (p : Int) = i
      · rw [if_pos (Or.inl t1)] at h
        have HN := Lib.hid h
        have b1 : ((p : Int) == i) = true := beq_iff_eq.2 t1
        clear h t1
        go_wp2
        go_roundw
        case rel => exact ⟨p + 1, by omega, by go_num, HN, HB1⟩
        case measure => simp [intOf] <;> omega
      have b1 : ((p : Int) == i) = false := beq_eq_false_iff_ne.2 t1
      by_cases t2 : (p : Int) = i + 1
      · rw [if_pos (Or.inr (Or.inl t2))] at h
        have HN := Lib.hid h
        have b2 : ((p : Int) == i + 1) = true := beq_iff_eq.2 t2
        clear h t1 t2
        go_wp2
        go_roundw
        case rel => exact ⟨p + 1, by omega, by go_num, HN, HB1⟩
        case measure => simp [intOf] <;> omega
      have b2 : ((p : Int) == i + 1) = false := beq_eq_false_iff_ne.2 t2
      by_cases t3 : q = i
      · rw [if_pos (Or.inr (Or.inr (Or.inl t3)))] at h
        have HN := Lib.hid h
        have b3 : (q == i) = true := beq_iff_eq.2 t3
        clear h t1 t2 t3
        go_wp2
        go_roundw
        case rel => exact ⟨p + 1, by omega, by go_num, HN, HB1⟩
        case measure => simp [intOf] <;> omega
      have b3 : (q == i) = false := beq_eq_false_iff_ne.2 t3
      by_cases t4 : q = i + 1
      · rw [if_pos (Or.inr (Or.inr (Or.inr t4)))] at h
        have HN := Lib.hid h
        have b4 : (q == i + 1) = true := beq_iff_eq.2 t4
        clear h t1 t2 t3 t4
        go_wp2
        go_roundw
        case rel => exact ⟨p + 1, by omega, by go_num, HN, HB1⟩
        case measure => simp [intOf] <;> omega
      have b4 : (q == i + 1) = false := beq_eq_false_iff_ne.2 t4
      rw [if_neg (by omega)] at h
      by_cases t5 : 0 ≤ q ∧ q < (l0.length : Int)
      · rw [if_pos t5] at h
        obtain ⟨R, he, h⟩ := Option.bind_eq_some_iff.1 h
        have HN := Lib.hid h
        have HE := Lib.hid he
        have HT : Hid (((p : Int) ≠ i ∧ (p : Int) ≠ i + 1 ∧ q ≠ i ∧ q ≠ i + 1) ∧ 0 ≤ q ∧ q < (len : Int)) := ⟨⟨t1, t2, t3, t4⟩, t5.1, by have := HL0.out; omega⟩
        clear h he t1 t2 t3 t4 t5
        have hcl2 := plait_diagram_int_89.calls (some a0) c0 l0 l0
        rw [HL0.out] at hcl2
        have hc89 : plait_diagram_int_89.f l0 = some l0 := by
          unfold plait_diagram_int_89.f
          rw [Option.bind_some, if_pos (by have := HL0.out; have := HLN.out; simp; omega), List.nil_append]
        have HCL2 := Lib.hid hcl2
        have HC89 := Lib.hid hc89
        clear hcl2 hc89
        go_wp2
        go_loopw [66] (fun t w' => ∃ j : Nat, j ≤ 2 ∧ t = .int .i64 (j : Int) ∧ Hid (plait_ends k l0 n i want (p : Int) q j = some R) ∧ Hid (Below w.heap.size w w')) (fun t _ => 2 - (intOf t).toNat)
        case atStart => exact ⟨0, by omega, rfl, HE, HB1⟩
        case round =>
          obtain ⟨j, hj, rfl, HE2, HB2⟩ := hrel
          obtain ⟨wp, rfl⟩ : ∃ wp : World, wp = wr := ⟨_, rfl⟩
          clear HE hx0
          rcases (show j = 0 ∨ j = 1 ∨ j = 2 by omega) with rfl | rfl | rfl
          · have ix := ends_first i (i + 1) (i + 1) i
            have he := HE2.out
            simp only [plait_ends] at he
            obtain ⟨r1, ht1, hr1⟩ := Option.bind_eq_some_iff.1 he
            have HT1 := Lib.hid ht1
            have HR1 := Lib.hid hr1
            clear he ht1 hr1 HE2
            go_wp2_with (first | (go_at_call 89; refine (HCL2.out _ (Kd.C_below HR0.out (HB2.out.alloc HB2.out.size _)) HC0.out rfl HC89.out).mono ?_; rintro e w2 ⟨v2, rfl, hR2, hb2⟩; obtain ⟨G, cap, rfl, hcap, hOS⟩ := OS.start HB2.out hR2 hb2 HL0.out (by have := HLN.out; omega); have HOS := Lib.hid hOS; have HCP := Lib.hid hcap; clear hR2 hb2 hOS hcap))
            have i10 : 0 ≤ i + 1 := by omega
            have i11 : i + 1 < (len : Int) := by have := HLN.out; omega
            obtain ⟨hc1, hf1⟩ := HOS.out.cell i hi0 q1
            obtain ⟨hc2, hf2⟩ := (HOS.out.put i (p : Int)).cell (p : Int) (by omega) p1
            have he0 := HOS.out.end0
            have he1 := (HOS.out.put i (p : Int)).end0
            have he2 := ((HOS.out.put i (p : Int)).put (p : Int) i).end0
            rw [Int.toNat_natCast] at hc2 hf2 he2
            go_region_held3 (fun W => W.cell? ⟨wp.heap.size, 0, none⟩ = some (.int .i64 i))
              (first | exact he0 | exact he1 | exact he2)
              (fail)
            have hOS1 := ((HOS.out.put i (p : Int)).put (p : Int) i).drew
            rw [Int.toNat_natCast] at hOS1
            have HOS1 := Lib.hid hOS1
            clear hc1 hf1 hc2 hf2 he0 he1 he2 hOS1 HOS
            obtain ⟨w3, hw3⟩ : ∃ w3, ((w2.setCell ⟨G, i.toNat, none⟩ (.int .i64 (p : Int))).setCell ⟨G, p, none⟩ (.int .i64 i)).drew = w3 := ⟨_, rfl⟩
            go_wp2
            rw [hw3] at HOS1 ⊢
            clear hw3
            have qq := HT.out.2
            obtain ⟨qq0, qq1⟩ := qq
            obtain ⟨hc1, hf1⟩ := HOS1.out.cell (i + 1) i10 i11
            obtain ⟨hc2, hf2⟩ := (HOS1.out.put (i + 1) q).cell q qq0 qq1
            have he0 := HOS1.out.end1
            have he1 := (HOS1.out.put (i + 1) q).end1
            have he2 := ((HOS1.out.put (i + 1) q).put q (i + 1)).end1
            go_region_held3 (fun W => W.cell? ⟨wp.heap.size, 1, none⟩ = some (.int .i64 (i + 1)))
              (first | exact he0 | exact he1 | exact he2)
              (fail)
            have hOS2 := ((HOS1.out.put (i + 1) q).put q (i + 1)).drew
            have ho : (((l0.set i.toNat (p : Int)).set p i).set (i + 1).toNat q).set q.toNat (i + 1) = plait_open l0 (p : Int) q i (i + 1) := by
              unfold plait_open; rw [Int.toNat_natCast]
            rw [ho] at hOS2
            have HOS2 := Lib.hid hOS2
            clear hc1 hf1 hc2 hf2 he0 he1 he2 hOS2 HOS1 ho
            obtain ⟨w4, hw4⟩ : ∃ w4, ((w3.setCell ⟨G, (i + 1).toNat, none⟩ (.int .i64 q)).setCell ⟨G, q.toNat, none⟩ (.int .i64 (i + 1))).drew = w4 := ⟨_, rfl⟩
            rw [hw4] at HOS2
            obtain ⟨o, ho⟩ : ∃ o, plait_open l0 (p : Int) q i (i + 1) = o := ⟨_, rfl⟩
            rw [ho] at HOS2 HT1
            clear ho
            have hol := HOS2.out.len
            have HOL := Lib.hid hol
            go_wp2_with fail
            clear hw4
            have h := HT1.out
            unfold plait_try at h
            obtain ⟨⟨s, ok⟩, ha, h⟩ := Option.bind_eq_some_iff.1 h
            have hcl := plait_diagram_arches.calls k (some ⟨G, 0, none⟩) cap o s ok
            rw [hol] at hcl
            refine (hcl _ HOS2.out.read HCP.out ha).mono ?_
            rintro e w5 ⟨rfl, hb5⟩
            have HOS3 := Lib.hid (HOS2.out.later hb5)
            clear hcl ha hb5 HOS2 HT1 hol
            cases ok with
            | false =>
              simp only [Bool.false_eq_true, if_false] at h
              have h := Option.some.inj h
              subst h
              have HNX : Hid (plait_ends k l0 n i want (p : Int) q 1 = some R) := Lib.hid (by have h_ := HR1.out; rw [if_neg (by simp)] at h_; exact h_)
              clear HR1
              go_wp2
              go_roundw
              case rel => exact ⟨1, by omega, by go_num, HNX, Lib.hid HOS3.out.below⟩
              case measure => simp [intOf] <;> omega
            | true =>
              simp only [if_true] at h
              obtain ⟨hh, hhe, h⟩ := Option.bind_eq_some_iff.1 h
              go_wp2_with fail
              have hcl := plait_diagram_height.calls k (some ⟨G, 0, none⟩) cap o hh
              rw [HOL.out] at hcl
              refine (hcl _ HOS3.out.read HCP.out hhe).mono ?_
              rintro e w6 ⟨rfl, ⟨nd6, hw6⟩⟩
              have hb6 : Below w5.heap.size w5 w6 := by rw [hw6]; exact pw_below_drewN (Below.refl _ _) _
              have HOS4 := Lib.hid (HOS3.out.later hb6)
              clear hb6
              clear hcl hhe HOS3 hw6
              by_cases hw : hh = want
              · rw [if_pos hw] at h
                have bw : (hh != want) = false := bne_eq_false_iff_eq.2 hw
                obtain ⟨hk, hke, h⟩ := Option.bind_eq_some_iff.1 h
                obtain ⟨⟨b1_, b2_⟩, hpe, h⟩ := Option.bind_eq_some_iff.1 h
                have H := Lib.hid h
                clear h hw
                go_wp2_with fail
                clear bw
                refine (plait_hook.calls k (n : Int) i hk _ hke).mono ?_
                rintro e w7 ⟨vk, rfl, hRk, hb7⟩
                have HOS5 := Lib.hid (HOS4.out.later hb7)
                obtain ⟨Ak, ck, rfl⟩ := Kd.R_slice hRk
                obtain ⟨_, hck, hCk⟩ := Kd.R_reads' hRk
                have HCK := Lib.hid hCk
                have HCKC := Lib.hid hck
                clear hke hRk hb7 HOS4 hCk hck
                go_wp2_with fail
                have hcl := plait_diagram_product.calls Ak ck hk (some ⟨G, 0, none⟩) cap o b1_ b2_
                rw [HOL.out] at hcl
                refine (hcl _ HCK.out HCKC.out HOS5.out.read HCP.out hpe).mono ?_
                rintro e w8 ⟨vb, rfl, hRb, hb8⟩
                have HOS6 := Lib.hid (HOS5.out.later hb8)
                obtain ⟨Ab, cb, rfl⟩ := Kd.R_slice hRb
                obtain ⟨_, hcb, hCb⟩ := Kd.R_reads' hRb
                have HCB := Lib.hid hCb
                have HCBC := Lib.hid hcb
                clear hcl hpe hRb hb8 HOS5 hCb hcb HCK HCKC
                by_cases hz : b2_ = 0
                · have h := H.out
                  rw [if_pos hz] at h
                  have bz : (b2_ == 0) = true := beq_iff_eq.2 hz
                  obtain ⟨eq, hee, h⟩ := Option.bind_eq_some_iff.1 h
                  have H' := Lib.hid h
                  clear h hz H
                  go_wp2_with fail
                  clear bz
                  have hcl := plait_diagram_int_69.calls k Ab cb b1_ (some a0) c0 l0 eq
                  rw [HL0.out] at hcl
                  refine (hcl _ HCB.out HCBC.out (Kd.C_below HR0.out HOS6.out.below) HC0.out hee).mono ?_
                  rintro e w9 ⟨rfl, ⟨nd9, hw9⟩⟩
                  have hb9 : Below w8.heap.size w8 w9 := by rw [hw9]; exact pw_below_drewN (Below.refl _ _) _
                  have HOS7 := Lib.hid (HOS6.out.later hb9)
                  clear hb9
                  clear hcl hee HOS6 hw9 HCB HCBC
                  cases eq with
                  | false =>
                    have h := H'.out
                    simp only [Bool.false_eq_true, if_false] at h
                    have h := Option.some.inj h
                    subst h
                    have HNX : Hid (plait_ends k l0 n i want (p : Int) q 1 = some R) := Lib.hid (by have h_ := HR1.out; rw [if_neg (by simp)] at h_; exact h_)
                    clear HR1
                    go_wp2
                    go_roundw
                    case rel => exact ⟨1, by omega, by go_num, HNX, Lib.hid HOS7.out.below⟩
                    case measure => simp [intOf] <;> omega
                  | true =>
                    have h := H'.out
                    simp only [if_true] at h
                    have h := Option.some.inj h
                    subst h
                    have hR := HR1.out
                    rw [if_pos (show (some o).isSome = true from rfl)] at hR
                    have hR := Option.some.inj hR
                    subst hR
                    have hr := HN.out
                    rw [if_pos (show (some o).isSome = true from rfl)] at hr
                    have hr := Option.some.inj hr
                    simp only [Option.getD_some] at hr
                    subst hr
                    clear hR HR1 HN H'
                    go_wp2
                    go_ret
                    exact ⟨_, rfl, .inr ⟨fun e_ => by have h1_ := HOL.out; rw [e_] at h1_; have h2_ := HLN.out; simp at h1_; omega, Kd.R_mono HOS7.out.row (fun _ _ => trivial)⟩, HOS7.out.below⟩
                · have h := H.out
                  rw [if_neg hz] at h
                  have bz : (b2_ == 0) = false := beq_eq_false_iff_ne.2 hz
                  have h := Option.some.inj h
                  subst h
                  clear hz H
                  have HNX : Hid (plait_ends k l0 n i want (p : Int) q 1 = some R) := Lib.hid (by have h_ := HR1.out; rw [if_neg (by simp)] at h_; exact h_)
                  clear HR1
                  go_wp2
                  go_roundw
                  case rel => exact ⟨1, by omega, by go_num, HNX, Lib.hid HOS6.out.below⟩
                  case measure => simp [intOf] <;> omega
              · rw [if_neg hw] at h
                have bw : (hh != want) = true := bne_iff_ne.2 hw
                have h := Option.some.inj h
                subst h
                clear hw
                have HNX : Hid (plait_ends k l0 n i want (p : Int) q 1 = some R) := Lib.hid (by have h_ := HR1.out; rw [if_neg (by simp)] at h_; exact h_)
                clear HR1
                go_wp2
                go_roundw
                case rel => exact ⟨1, by omega, by go_num, HNX, Lib.hid HOS4.out.below⟩
                case measure => simp [intOf] <;> omega
          · have ix := ends_second i (i + 1) (i + 1) i
            have he := HE2.out
            simp only [plait_ends] at he
            obtain ⟨r1, ht1, hr1⟩ := Option.bind_eq_some_iff.1 he
            have HT1 := Lib.hid ht1
            have HR1 := Lib.hid hr1
            clear he ht1 hr1 HE2
            go_wp2_with (first | (go_at_call 89; refine (HCL2.out _ (Kd.C_below HR0.out (HB2.out.alloc HB2.out.size _)) HC0.out rfl HC89.out).mono ?_; rintro e w2 ⟨v2, rfl, hR2, hb2⟩; obtain ⟨G, cap, rfl, hcap, hOS⟩ := OS.start HB2.out hR2 hb2 HL0.out (by have := HLN.out; omega); have HOS := Lib.hid hOS; have HCP := Lib.hid hcap; clear hR2 hb2 hOS hcap))
            have i10 : 0 ≤ i + 1 := by omega
            have i11 : i + 1 < (len : Int) := by have := HLN.out; omega
            obtain ⟨hc1, hf1⟩ := HOS.out.cell (i + 1) i10 i11
            obtain ⟨hc2, hf2⟩ := (HOS.out.put (i + 1) (p : Int)).cell (p : Int) (by omega) p1
            have he0 := HOS.out.end0
            have he1 := (HOS.out.put (i + 1) (p : Int)).end0
            have he2 := ((HOS.out.put (i + 1) (p : Int)).put (p : Int) (i + 1)).end0
            rw [Int.toNat_natCast] at hc2 hf2 he2
            go_region_held3 (fun W => W.cell? ⟨wp.heap.size, 0, none⟩ = some (.int .i64 (i + 1)))
              (first | exact he0 | exact he1 | exact he2)
              (fail)
            have hOS1 := ((HOS.out.put (i + 1) (p : Int)).put (p : Int) (i + 1)).drew
            rw [Int.toNat_natCast] at hOS1
            have HOS1 := Lib.hid hOS1
            clear hc1 hf1 hc2 hf2 he0 he1 he2 hOS1 HOS
            obtain ⟨w3, hw3⟩ : ∃ w3, ((w2.setCell ⟨G, (i + 1).toNat, none⟩ (.int .i64 (p : Int))).setCell ⟨G, p, none⟩ (.int .i64 (i + 1))).drew = w3 := ⟨_, rfl⟩
            go_wp2
            rw [hw3] at HOS1 ⊢
            clear hw3
            have qq := HT.out.2
            obtain ⟨qq0, qq1⟩ := qq
            obtain ⟨hc1, hf1⟩ := HOS1.out.cell i hi0 q1
            obtain ⟨hc2, hf2⟩ := (HOS1.out.put i q).cell q qq0 qq1
            have he0 := HOS1.out.end1
            have he1 := (HOS1.out.put i q).end1
            have he2 := ((HOS1.out.put i q).put q i).end1
            go_region_held3 (fun W => W.cell? ⟨wp.heap.size, 1, none⟩ = some (.int .i64 i))
              (first | exact he0 | exact he1 | exact he2)
              (fail)
            have hOS2 := ((HOS1.out.put i q).put q i).drew
            have ho : (((l0.set (i + 1).toNat (p : Int)).set p (i + 1)).set i.toNat q).set q.toNat i = plait_open l0 (p : Int) q (i + 1) i := by
              unfold plait_open; rw [Int.toNat_natCast]
            rw [ho] at hOS2
            have HOS2 := Lib.hid hOS2
            clear hc1 hf1 hc2 hf2 he0 he1 he2 hOS2 HOS1 ho
            obtain ⟨w4, hw4⟩ : ∃ w4, ((w3.setCell ⟨G, i.toNat, none⟩ (.int .i64 q)).setCell ⟨G, q.toNat, none⟩ (.int .i64 i)).drew = w4 := ⟨_, rfl⟩
            rw [hw4] at HOS2
            obtain ⟨o, ho⟩ : ∃ o, plait_open l0 (p : Int) q (i + 1) i = o := ⟨_, rfl⟩
            rw [ho] at HOS2 HT1
            clear ho
            have hol := HOS2.out.len
            have HOL := Lib.hid hol
            go_wp2_with fail
            clear hw4
            have h := HT1.out
            unfold plait_try at h
            obtain ⟨⟨s, ok⟩, ha, h⟩ := Option.bind_eq_some_iff.1 h
            have hcl := plait_diagram_arches.calls k (some ⟨G, 0, none⟩) cap o s ok
            rw [hol] at hcl
            refine (hcl _ HOS2.out.read HCP.out ha).mono ?_
            rintro e w5 ⟨rfl, hb5⟩
            have HOS3 := Lib.hid (HOS2.out.later hb5)
            clear hcl ha hb5 HOS2 HT1 hol
            cases ok with
            | false =>
              simp only [Bool.false_eq_true, if_false] at h
              have h := Option.some.inj h
              subst h
              have HNX : Hid (plait_ends k l0 n i want (p : Int) q 2 = some R) := Lib.hid (by have h_ := HR1.out; exact h_)
              clear HR1
              go_wp2
              go_roundw
              case rel => exact ⟨2, by omega, by go_num, HNX, Lib.hid HOS3.out.below⟩
              case measure => simp [intOf] <;> omega
            | true =>
              simp only [if_true] at h
              obtain ⟨hh, hhe, h⟩ := Option.bind_eq_some_iff.1 h
              go_wp2_with fail
              have hcl := plait_diagram_height.calls k (some ⟨G, 0, none⟩) cap o hh
              rw [HOL.out] at hcl
              refine (hcl _ HOS3.out.read HCP.out hhe).mono ?_
              rintro e w6 ⟨rfl, ⟨nd6, hw6⟩⟩
              have hb6 : Below w5.heap.size w5 w6 := by rw [hw6]; exact pw_below_drewN (Below.refl _ _) _
              have HOS4 := Lib.hid (HOS3.out.later hb6)
              clear hb6
              clear hcl hhe HOS3 hw6
              by_cases hw : hh = want
              · rw [if_pos hw] at h
                have bw : (hh != want) = false := bne_eq_false_iff_eq.2 hw
                obtain ⟨hk, hke, h⟩ := Option.bind_eq_some_iff.1 h
                obtain ⟨⟨b1_, b2_⟩, hpe, h⟩ := Option.bind_eq_some_iff.1 h
                have H := Lib.hid h
                clear h hw
                go_wp2_with fail
                clear bw
                refine (plait_hook.calls k (n : Int) i hk _ hke).mono ?_
                rintro e w7 ⟨vk, rfl, hRk, hb7⟩
                have HOS5 := Lib.hid (HOS4.out.later hb7)
                obtain ⟨Ak, ck, rfl⟩ := Kd.R_slice hRk
                obtain ⟨_, hck, hCk⟩ := Kd.R_reads' hRk
                have HCK := Lib.hid hCk
                have HCKC := Lib.hid hck
                clear hke hRk hb7 HOS4 hCk hck
                go_wp2_with fail
                have hcl := plait_diagram_product.calls Ak ck hk (some ⟨G, 0, none⟩) cap o b1_ b2_
                rw [HOL.out] at hcl
                refine (hcl _ HCK.out HCKC.out HOS5.out.read HCP.out hpe).mono ?_
                rintro e w8 ⟨vb, rfl, hRb, hb8⟩
                have HOS6 := Lib.hid (HOS5.out.later hb8)
                obtain ⟨Ab, cb, rfl⟩ := Kd.R_slice hRb
                obtain ⟨_, hcb, hCb⟩ := Kd.R_reads' hRb
                have HCB := Lib.hid hCb
                have HCBC := Lib.hid hcb
                clear hcl hpe hRb hb8 HOS5 hCb hcb HCK HCKC
                by_cases hz : b2_ = 0
                · have h := H.out
                  rw [if_pos hz] at h
                  have bz : (b2_ == 0) = true := beq_iff_eq.2 hz
                  obtain ⟨eq, hee, h⟩ := Option.bind_eq_some_iff.1 h
                  have H' := Lib.hid h
                  clear h hz H
                  go_wp2_with fail
                  clear bz
                  have hcl := plait_diagram_int_69.calls k Ab cb b1_ (some a0) c0 l0 eq
                  rw [HL0.out] at hcl
                  refine (hcl _ HCB.out HCBC.out (Kd.C_below HR0.out HOS6.out.below) HC0.out hee).mono ?_
                  rintro e w9 ⟨rfl, ⟨nd9, hw9⟩⟩
                  have hb9 : Below w8.heap.size w8 w9 := by rw [hw9]; exact pw_below_drewN (Below.refl _ _) _
                  have HOS7 := Lib.hid (HOS6.out.later hb9)
                  clear hb9
                  clear hcl hee HOS6 hw9 HCB HCBC
                  cases eq with
                  | false =>
                    have h := H'.out
                    simp only [Bool.false_eq_true, if_false] at h
                    have h := Option.some.inj h
                    subst h
                    have HNX : Hid (plait_ends k l0 n i want (p : Int) q 2 = some R) := Lib.hid (by have h_ := HR1.out; exact h_)
                    clear HR1
                    go_wp2
                    go_roundw
                    case rel => exact ⟨2, by omega, by go_num, HNX, Lib.hid HOS7.out.below⟩
                    case measure => simp [intOf] <;> omega
                  | true =>
                    have h := H'.out
                    simp only [if_true] at h
                    have h := Option.some.inj h
                    subst h
                    have hR := HR1.out
                    have hR := Option.some.inj hR
                    subst hR
                    have hr := HN.out
                    rw [if_pos (show (some o).isSome = true from rfl)] at hr
                    have hr := Option.some.inj hr
                    simp only [Option.getD_some] at hr
                    subst hr
                    clear hR HR1 HN H'
                    go_wp2
                    go_ret
                    exact ⟨_, rfl, .inr ⟨fun e_ => by have h1_ := HOL.out; rw [e_] at h1_; have h2_ := HLN.out; simp at h1_; omega, Kd.R_mono HOS7.out.row (fun _ _ => trivial)⟩, HOS7.out.below⟩
                · have h := H.out
                  rw [if_neg hz] at h
                  have bz : (b2_ == 0) = false := beq_eq_false_iff_ne.2 hz
                  have h := Option.some.inj h
                  subst h
                  clear hz H
                  have HNX : Hid (plait_ends k l0 n i want (p : Int) q 2 = some R) := Lib.hid (by have h_ := HR1.out; exact h_)
                  clear HR1
                  go_wp2
                  go_roundw
                  case rel => exact ⟨2, by omega, by go_num, HNX, Lib.hid HOS6.out.below⟩
                  case measure => simp [intOf] <;> omega
              · rw [if_neg hw] at h
                have bw : (hh != want) = true := bne_iff_ne.2 hw
                have h := Option.some.inj h
                subst h
                clear hw
                have HNX : Hid (plait_ends k l0 n i want (p : Int) q 2 = some R) := Lib.hid (by have h_ := HR1.out; exact h_)
                clear HR1
                go_wp2
                go_roundw
                case rel => exact ⟨2, by omega, by go_num, HNX, Lib.hid HOS4.out.below⟩
                case measure => simp [intOf] <;> omega
          · have he := HE2.out
            simp only [plait_ends] at he
            have he := Option.some.inj he
            subst he
            have hr := HN.out
            rw [if_neg (by simp)] at hr
            have HN2 := Lib.hid hr
            clear hr HE2 HN
            go_wp2
            go_roundw
            case rel => exact ⟨p + 1, by omega, by go_num, HN2, HB2⟩
            case measure => simp [intOf] <;> omega
      · rw [if_neg t5] at h
        cases h
    · obtain rfl : p = 2 * n := by omega
      have d1 : decide (((2 * n : Nat) : Int) < 2 * (n : Int)) = false := decide_eq_false (by omega)
      have h := HA.out
      rw [Nat.sub_self] at h
      simp only [plait_search] at h
      have h := Option.some.inj h
      subst h
      clear HA
      go_wp2
      go_ret
      exact ⟨_, rfl, .inl ⟨rfl, rfl⟩, HB1.out⟩
set_option maxHeartbeats 1000000 in
theorem shorter_nil (a0 : Addr) (c0 : Nat) (l0 : List Int) (n len : Nat) (i : Int) (w : World) (hr0 : Kd.C (Kd.int .i64) w (some a0) len l0) (hlen : len = 2 * n) (hn : n ≤ 500) (hi0 : 0 ≤ i) (hi : i + 1 < (n : Int)) (h1 : rd l0 i ≠ i + 1) :
    Calls Try.prog 79 #[.slice (some a0) len c0, .int .i64 i] w fun e w' => e = .returned (.slice none 0 0) ∧ w = w' := by
  have HLN := Lib.hid hlen
  obtain ⟨ad, e0, hx0⟩ := Kd.at_int hr0 i hi0 (by omega)
  have e0' := Option.some.inj e0
  subst e0'
  have hsz := size_same (some a0) c0 len n
  have HSZ := Lib.hid hsz
  have q1 : i < (len : Int) := by omega
  obtain ⟨x, hx⟩ : ∃ x, rd l0 i = x := ⟨_, rfl⟩
  rw [hx] at hx0 h1
  have b1 : (x != i + 1) = true := bne_iff_ne.2 h1
  clear hr0 hlen h1 hsz e0 hx
  go_enter Try.func79, Try.ntmps79
  go_wp2_with (first | (go_at_call 72; refine (HSZ.out _ HLN.out (by omega)).mono ?_; rintro e w' ⟨rfl, rfl⟩))
  go_ret
  exact ⟨rfl, rfl⟩
/-- shorter, whole -/
theorem shorter_any (k : Nat) (A0 : Option Addr) (c0 : Nat) (l0 : List Int) (i : Int) (r : List Int) (w : World) (hr0 : Kd.C (Kd.int .i64) w A0 l0.length l0) (hc0 : l0.length ≤ c0) (h : plait_short k l0 i = some r) :
    Calls Try.prog 79 #[.slice A0 l0.length c0, .int .i64 i] w fun e w' => ∃ v, e = .returned v ∧ Handed1 w w' v r ∧ Below w.heap.size w w' := by
  unfold plait_short at h
  by_cases c : l0.length = 2 * (l0.length / 2) ∧ l0.length ≤ 1000 ∧ 0 ≤ i ∧ i + 1 < ((l0.length / 2 : Nat) : Int)
  · rw [if_pos c] at h
    obtain ⟨g1, g2, g3, g4⟩ := c
    obtain ⟨a0, rfl, _⟩ := hr0.2.2 (by omega)
    by_cases c2 : rd l0 i = i + 1
    · rw [if_pos c2] at h
      obtain ⟨ht, h1, h2⟩ := Option.bind_eq_some_iff.1 h
      exact shorter_walk k a0 c0 l0 (l0.length / 2) l0.length i w hr0 hc0 rfl g1 (by omega) g3 g4 c2 ht h1 r h2
    · rw [if_neg c2] at h
      have h := Option.some.inj h
      subst h
      refine (shorter_nil a0 c0 l0 (l0.length / 2) l0.length i w hr0 g1 (by omega) g3 g4 c2).mono ?_
      rintro e w' ⟨rfl, rfl⟩
      exact ⟨_, rfl, .inl ⟨rfl, rfl⟩, Below.refl _ _⟩
  · rw [if_neg c] at h
    cases h
end Go.Proofs.Ytjfkompfkgjdaaa.PC
end
section
/- word: the walk. -/
namespace Go.Proofs.Ytjfkompfkgjdaaa.PC
open Go.RowKit Go.Proofs.YtjfkompfkgjdaaaW.PrintWords Go.Proofs.YtjfkompfkgjdaaaW.PrintLast Go.Proofs.YtjfkompfkgjdaaaW.PrintMore
/-- the diagram at hand (one that came in, or one of the call's own) and the word up to now -/
structure WS (w0 : World) (v3 : Value) (A : Option Addr) (c : Nat) (dl outl : List Int) (W : World) : Prop where
  below : Below w0.heap.size w0 W
  cap : dl.length ≤ c
  row : Kd.R (Kd.int .i64) 3 W w0.heap.size (fun _ => True) v3 outl
  d : Kd.C (Kd.int .i64) w0 A dl.length dl ∨ Kd.R (Kd.int .i64) 3 W w0.heap.size (fun k => some k ≠ v3.ownBlock) (.slice A dl.length c) dl
theorem WS.read {w0 : World} {v3 : Value} {A : Option Addr} {c : Nat} {dl outl : List Int} {W : World} (h : WS w0 v3 A c dl outl W) : Kd.C (Kd.int .i64) W A dl.length dl := by
  rcases h.d with g | g
  · exact Kd.C_below g h.below
  · exact (Kd.R_reads' g).2.2
theorem WS.later {w0 : World} {v3 : Value} {A : Option Addr} {c : Nat} {dl outl : List Int} {W W' : World} (h : WS w0 v3 A c dl outl W) (hb : Below W.heap.size W W') : WS w0 v3 A c dl outl W' :=
  ⟨h.below.trans (hb.mono h.below.size), h.cap, Kd.R_below h.row hb, h.d.imp id fun g => Kd.R_below g hb⟩
/-- the next diagram: what shorter has handed back -/
theorem WS.next {w0 : World} {v3 v1 : Value} {A : Option Addr} {c : Nat} {dl outl : List Int} {W W' w1 : World} {x : Int} {o : List Int} {G cap : Nat} (h : WS w0 v3 A c dl outl W) (hb : Below W.heap.size W W') (hR : Kd.R (Kd.int .i64) 3 W' W.heap.size (fun _ => True) (.slice (some ⟨G, 0, none⟩) o.length cap) o) (hcap : o.length ≤ cap)
    (hrow : Kd.R (Kd.int .i64) 3 w1 w0.heap.size (fun _ => True) v1 (outl ++ [x])) (hb1 : Below w0.heap.size w0 w1) (hg : W'.grownBy w1 v3.ownBlock) (hat : v1.ownBlock = v3.ownBlock ∨ ∃ b, v1.ownBlock = some b ∧ W'.heap.size ≤ b) : WS w0 v1 (some ⟨G, 0, none⟩) cap o (outl ++ [x]) w1 := by
  have hlt := Kd.R_lt h.row
  have hs := h.below.size
  have h1 : ∀ k, W.heap.size ≤ k → some k ≠ v3.ownBlock := fun k hk e => by have := hlt k e.symm; omega
  refine ⟨hb1, hcap, hrow, .inr ?_⟩
  have hR2 := Kd.R_mono (Kd.R_bound hR) (ok' := fun k => W.heap.size ≤ k ∧ k < W'.heap.size) (fun k hk => ⟨hk.2.1, hk.2.2.1⟩)
  have hR3 := Kd.R_grown hR2 hg (fun k hk => h1 k hk.1)
  refine Kd.R_lower (Kd.R_mono hR3 (fun k hk => ?_)) hs
  rcases hat with e | ⟨b, e, hb2⟩
  · rw [e]; exact h1 k hk.1
  · rw [e]; intro e2; have := Option.some.inj e2; have := hk.2; omega
set_option maxHeartbeats 4000000 in
set_option maxRecDepth 100000 in
theorem word_walk (k : Nat) (A0 : Option Addr) (c0 : Nat) (l0 : List Int) (w : World) (hr0 : Kd.C (Kd.int .i64) w A0 l0.length l0) (hc0 : l0.length ≤ c0) (r : List Int) (h : plait_wordGo k 1000 l0 [] = some r) :
    Calls Try.prog 55 #[.slice A0 l0.length c0] w fun e w' => ∃ v0_ : Value, e = .returned v0_ ∧ Kd.R (Kd.int .i64) 3 w' w.heap.size (fun _ => True) v0_ r ∧ Below w.heap.size w w' := by
  have HR := Lib.hid hr0
  have HC := Lib.hid hc0
  have H := Lib.hid h
  have hnn := fun (W : World) => run_neq_slice_nil_any (P := Try.prog) W 65 3 none 0 0 0 0 Try.underlying65
  have hns := fun (W : World) (a : Addr) (n c : Nat) => run_neq_slice_nil_any (P := Try.prog) W 65 3 (some a) n c 0 0 Try.underlying65
  simp only [Option.isNone_none, Option.isNone_some, Bool.not_true, Bool.not_false] at hnn hns
  clear hr0 hc0 h
  go_enter Try.func55, Try.ntmps55
  go_wp2
  go_loopg [0, 3] 1000 (fun kq v0 v3 W => ∃ (A : Option Addr) (c : Nat) (dl outl : List Int), v0 = .slice A dl.length c ∧ Hid (plait_wordGo k kq dl outl = some r) ∧ Hid (kq ≤ 1000 ∧ outl.length + kq ≤ 1000) ∧ Hid (WS w v3 A c dl outl W))
  case atStart => exact ⟨A0, c0, l0, [], rfl, H, ⟨Nat.le_refl _, by simp⟩, ⟨Below.refl _ _, HC.out, Kd.R_nil _ _ _ _ _, .inl HR.out⟩⟩
  case round =>
    obtain ⟨A, c, dl, outl, rfl, HA, HK, HS⟩ := hrel
    clear H
    cases gk with
    | zero => exact absurd HA.out (by simp [plait_wordGo])
    | succ k1 =>
      obtain ⟨wo, rfl⟩ : ∃ wo : World, wo = wr := ⟨_, rfl⟩
      have h := HA.out
      clear HA
      simp only [plait_wordGo] at h
      by_cases c1 : dl.length = 2 * (dl.length / 2) ∧ dl.length ≤ 1000 ∧ 0 < dl.length
      · rw [if_pos c1] at h
        obtain ⟨g1, g2, g3⟩ := c1
        obtain ⟨hh, h1, h⟩ := Option.bind_eq_some_iff.1 h
        have hcl := plait_diagram_height.calls k A c dl hh
        obtain ⟨n, hn⟩ : ∃ n, dl.length / 2 = n := ⟨_, rfl⟩
        obtain ⟨len, hlen⟩ : ∃ len, dl.length = len := ⟨_, rfl⟩
        have hrd := HS.out.read
        have hcp := HS.out.cap
        rw [hn, hlen] at g1
        rw [hlen] at g2 g3 hcl hrd hcp
        rw [hn] at h
        have hn5 : n ≤ 500 := by omega
        have hn1 : 1 ≤ n := by omega
        have HLN := Lib.hid hlen
        have HG := Lib.hid g1
        clear hn g1
        by_cases hz : hh > 0
        · rw [if_pos hz] at h
          have d1 : decide (0 < hh) = true := decide_eq_true hz
          obtain ⟨R, h2, h⟩ := Option.bind_eq_some_iff.1 h
          have HN := Lib.hid h
          have HP := Lib.hid h2
          have hsz := size_same A c len n
          have HSZ := Lib.hid hsz
          clear h h2 hz hsz
          rw [HLN.out]
          clear hlen
          go_wp2_with fail
          refine (hcl _ hrd hcp h1).mono ?_
          rintro e w2 ⟨rfl, ⟨nd, hw2⟩⟩
          have HS2 := Lib.hid (HS.out.later (W' := w2) (by rw [hw2]; exact pw_below_drewN (Below.refl _ _) _))
          clear hcl hrd h1 hw2 HS
          go_wp2_with (first | (go_at_call 72; refine (HSZ.out _ HG.out (by omega)).mono ?_; rintro e w' ⟨rfl, rfl⟩))
          go_loopw [0, 3, 12] (fun s0 s3 t W => ∃ i : Nat, i ≤ n - 1 ∧ s0 = .slice A len c ∧ s3 = u3 ∧ t = .int .i64 (i : Int) ∧ Hid (plait_pick k dl (n - 1 - i) i = some R) ∧ Hid (WS w u3 A c dl outl W)) (fun _ _ t _ => n - (intOf t).toNat)
          case atStart => exact ⟨0, Nat.zero_le _, rfl, rfl, rfl, HP, HS2⟩
          case round =>
            obtain ⟨i, hi, rfl, rfl, rfl, HP2, HS3⟩ := hrel
            obtain ⟨wp, rfl⟩ : ∃ wp : World, wp = wr := ⟨_, rfl⟩
            clear HP HS2
            by_cases hlt : i < n - 1
            · have d2 : decide ((i : Int) < (n : Int) - 1) = true := decide_eq_true (by omega)
              have h := HP2.out
              rw [show n - 1 - i = (n - 1 - (i + 1)) + 1 by omega] at h
              simp only [plait_pick] at h
              obtain ⟨o, h3, h⟩ := Option.bind_eq_some_iff.1 h
              have hcl := shorter_any k A c dl (i : Int) o
              have hrd := HS3.out.read
              rw [HLN.out] at hcl hrd
              have HH := Lib.hid h
              clear h HP2
              go_wp2_with fail
              refine (hcl _ hrd hcp h3).mono ?_
              rintro e w3 ⟨v5, rfl, hH, hb3⟩
              clear hcl hrd h3
              rcases hH with ⟨ho, rfl⟩ | ⟨ho, hR3⟩
              · have h := HH.out
                rw [if_pos ho] at h
                have HP3 := Lib.hid h
                have HS4 := Lib.hid (HS3.out.later hb3)
                clear h HH HS3 hb3
                go_wp2
                go_roundw
                case rel => exact ⟨i + 1, by omega, rfl, rfl, by go_num, HP3, HS4⟩
                case measure => simp [intOf] <;> omega
              · have h := HH.out
                rw [if_neg ho] at h
                have h := Option.some.inj h
                subst h
                have hol : 0 < o.length := List.length_pos_iff.2 ho
                obtain ⟨G, cap, rfl, _, _, _⟩ := Kd.R_form hR3 hol
                have hcap := (Kd.R_reads' hR3).2.1
                have h := HN.out
                rw [if_pos (show (some (i, o)).isSome = true from rfl)] at h
                simp only [Option.getD_some] at h
                have HN2 := Lib.hid h
                have HR3 := Lib.hid hR3
                have HB3 := Lib.hid hb3
                have HCAP := Lib.hid hcap
                have HS4 := Lib.hid (HS3.out.later hb3)
                have hns2 := fun (W : World) => hns W ⟨G, 0, none⟩ o.length cap
                clear h hR3 hb3 hcap HH HN ho hol
                go_wp2_with (first | ((with_reducible refine gate_builtin (b := .append) (xs := #[.tmp 20, .tmp 22]) rfl ?_); at_builtin; refine Kd.R_append (Kd.int .i64) (w0 := w) w.heap.size rfl (.tmp 20) (.tmp 22) 22 3 (.int .i64 0) 8 rfl Try.underlying22 info3 rfl (by decide) (by omega) u3 outl (i : Int) [.int .i64 (i : Int)] (fun _ => True) (fun _ => False) rfl rfl rfl (fun _ hk => hk.elim) (fun _ _ => trivial) HS4.out.row HS4.out.below HS4.out.below.size (by have := HK.out; omega) ?_; intro v1 w4 ho4 hb4 hg4 hat4; have HS5 := Lib.hid (HS3.out.next HB3.out HR3.out HCAP.out ho4 hb4 hg4 hat4); clear ho4 hb4 hg4 hat4))
                go_roundg k1
                case measure => have := HK.out; omega
                case rel => exact ⟨_, _, _, _, rfl, HN2, Lib.hid ⟨by have := HK.out; omega, by have := HK.out; simp; omega⟩, HS5⟩
            · obtain rfl : i = n - 1 := by omega
              have h := HP2.out
              rw [Nat.sub_self] at h
              simp only [plait_pick] at h
              have h := Option.some.inj h
              subst h
              have h := HN.out
              simp at h
        · rw [if_neg hz] at h
          have d1 : decide (0 < hh) = false := decide_eq_false hz
          have h := Option.some.inj h
          subst h
          clear hz
          rw [HLN.out]
          clear hlen
          go_wp2_with fail
          refine (hcl _ hrd hcp h1).mono ?_
          rintro e w2 ⟨rfl, ⟨nd, hw2⟩⟩
          have HS2 := Lib.hid (HS.out.later (W' := w2) (by rw [hw2]; exact pw_below_drewN (Below.refl _ _) _))
          clear hcl hrd h1 hw2 HS
          go_wp2
          go_ret
          exact ⟨_, rfl, HS2.out.row, HS2.out.below⟩
      · rw [if_neg c1] at h
        cases h
end Go.Proofs.Ytjfkompfkgjdaaa.PC
end
section
namespace Go.Proofs.Ytjfkompfkgjdaaa.PC
open Go.RowKit Go.Proofs.YtjfkompfkgjdaaaW.PrintWords Go.Proofs.YtjfkompfkgjdaaaW.PrintLast Go.Proofs.YtjfkompfkgjdaaaW.PrintMore
attribute [local go_sem] max2_int min2_int max_two min_two max_three min_three max_four min_four   -- for this text's walks alone
set_option linter.unusedVariables false
set_option linter.unusedSimpArgs false
/-! ### plait_diagram_word: function 55 -/
/-- the first shortest word, by the program -/
def plait_diagram_word.f (k : Nat) (l0 : List Int) : Option (List Int) := plait_wordGo k 1000 l0 []
theorem plait_diagram_word.mono : ∀ a0 k, LeO (plait_diagram_word.f k a0) (plait_diagram_word.f (k + 1) a0) := fun _ k => plait_wordGo_mono k _ _ _
theorem plait_diagram_word.calls (k : Nat) (A0 : Option Addr) (c0 : Nat) (l0 : List Int) (r : List Int) (w : World) (hr0 : Kd.C (Kd.int .i64) w A0 l0.length l0) (hc0 : l0.length ≤ c0) (h : plait_diagram_word.f k l0 = some r) :
  Calls Try.prog 55 #[.slice A0 l0.length c0] w fun e w' => ∃ v0_ : Value, e = .returned (v0_) ∧ Kd.R (Kd.int .i64) 3 w' w.heap.size (fun _ => True) v0_ r ∧ Below w.heap.size w w' := word_walk k A0 c0 l0 w hr0 hc0 r h
end Go.Proofs.Ytjfkompfkgjdaaa.PC
end
section
namespace Go.Proofs.Ytjfkompfkgjdaaa.PC
open Go.RowKit Go.Proofs.YtjfkompfkgjdaaaW.PrintWords Go.Proofs.YtjfkompfkgjdaaaW.PrintLast Go.Proofs.YtjfkompfkgjdaaaW.PrintMore
attribute [local go_sem] max2_int min2_int max_two min_two max_three min_three max_four min_four   -- for this text's walks alone
set_option linter.unusedVariables false
set_option linter.unusedSimpArgs false
/-! ### plait_Word: function 21 -/
attribute [local go_sem] plait_of.val0
def plait_Word.f (k : Nat) (l0 : List Int) : Option (List Int × Int) := (plait_of.f k l0).bind fun t174 => (if t174 = 0 then ((plait_diagram_word.f k l0).bind fun t175 => (some (t175, 0))) else (some (([] : List Int), t174)))
theorem plait_Word.mono : ∀ a0 k, LeO (plait_Word.f k a0) (plait_Word.f (k + 1) a0) := by
 intro a0 k
 unfold plait_Word.f
 repeat' first
   | (with_reducible exact plait_diagram_word.mono _ _)
   | (with_reducible exact plait_of.mono _ _)
   | (with_reducible exact LeO.refl _)
   | (with_reducible exact LeO.none _)
   | (with_reducible refine LeO.ite ?_ ?_)
   | (with_reducible refine LeO.bind ?_ (fun _ => ?_))
   | exact plait_diagram_word.mono _ _
   | exact plait_of.mono _ _
   | exact LeO.none _
   | refine LeO.ite ?_ ?_
   | refine LeO.bind ?_ (fun _ => ?_)
set_option maxHeartbeats 8000000 in
set_option maxRecDepth 100000 in
theorem plait_Word.calls (k : Nat) (A0 : Option Addr) (c0 : Nat) (l0 : List Int) (r1 : List Int) (r2 : Int) (w : World) (hr0 : Kd.C (Kd.int .i64) w A0 l0.length l0) (hc0 : l0.length ≤ c0) (h : plait_Word.f k l0 = some (r1, r2)) :
  Calls Try.prog 21 #[.slice A0 l0.length c0] w fun e w' => ∃ v0_ : Value, e = .returned (.tuple #[v0_, .int .i64 r2]) ∧ Kd.R (Kd.int .i64) 3 w' w.heap.size (fun _ => True) v0_ r1 ∧ Below w.heap.size w w' := by
 have HR0 := Aside0.mk hr0
 have HC0 := Aside0.mk hc0
 clear hr0 hc0
 have HB := Aside0.mk (Below.refl w.heap.size w)
 have H : ((plait_of.f k l0).bind fun t174 => (if t174 = 0 then ((plait_diagram_word.f k l0).bind fun t175 => (some (t175, 0))) else (some (([] : List Int), t174)))) = some (r1, r2) := h
 clear h
 replace H := Option.bind_eq_some_iff.mp H
 obtain ⟨t174, A20, H⟩ := H
 replace H : (if t174 = 0 then ((plait_diagram_word.f k l0).bind fun t175 => (some (t175, 0))) else (some (([] : List Int), t174))) = some (r1, r2) := H
 have A2 := Aside0.mk A20
 clear A20
 by_cases c3 : t174 = 0
 ·rw [if_pos c3] at H
  have c3b0 : (t174 == 0) = true := beq_iff_eq.mpr c3
  have c3b1 : (t174 != 0) = false := bne_eq_false_iff_eq.mpr c3
  clear c3
  replace H := Option.bind_eq_some_iff.mp H
  obtain ⟨t175, A40, H⟩ := H
  replace H : (some (t175, 0)) = some (r1, r2) := H
  have A4 := Aside0.mk A40
  clear A40
  simp only [Option.some.injEq, Prod.mk.injEq] at H
  obtain ⟨rfl, rfl⟩ := H
  go_enter Try.func21, Try.ntmps21
  go_wp2_with (first | ((with_reducible refine gate_callee (f := 54) rfl ?_); refine goesL_ (some 8) rfl rfl Try.func54 (by kernel_rfl) rfl #[.slice A0 l0.length c0] rfl (by (try simp only [List.map_toArray, List.map_cons, List.map_nil]); first | done | rfl | (simp only [List.length_drop, List.length_take]; rfl)) ?_; (with_reducible refine (plait_of.calls k _ _ l0 t174 _ ?side1 ?side2 A2.out).mono ?_); (case side1 => repeat (first | exact HR0.out | (with_reducible refine Kd.C_alloc ?_ _) | (with_reducible refine Kd.C_drewN ?_ _) | (with_reducible refine Kd.C_drew ?_))); (case side2 => exact HC0.out); rintro e w5 ⟨rfl, hb⟩; refine ⟨_, rfl, ?_⟩; have n0_ := Aside0.mk (below_step (by repeat (first | (with_reducible first | exact HB.out | apply below_alloc | apply pw_below_drewN | apply below_drew1) | exact HB.out)) hb); clear HB; have HB := n0_; clear n0_; (try clear hb); (try clear hb2); (try clear hk); (try clear hi)) | ((with_reducible refine gate_callee (f := 55) rfl ?_); refine goesL_ (some 15) rfl rfl Try.func55 (by kernel_rfl) rfl #[.slice A0 l0.length c0] rfl (by (try simp only [List.map_toArray, List.map_cons, List.map_nil]); first | done | rfl | (simp only [List.length_drop, List.length_take]; rfl)) ?_; (with_reducible refine (plait_diagram_word.calls k _ _ l0 t175 _ ?side1 ?side2 A4.out).mono ?_); (case side1 => repeat (first | exact (Kd.C_below HR0.out HB.out) | (with_reducible refine Kd.C_alloc ?_ _) | (with_reducible refine Kd.C_drewN ?_ _) | (with_reducible refine Kd.C_drew ?_))); (case side2 => exact HC0.out); rintro e w6 ⟨v176, rfl, ho0, hb⟩; refine ⟨_, rfl, ?_⟩; have n0_ := Aside0.mk (Kd.R_lower ho0 (below_size (by repeat (first | (with_reducible first | exact HB.out | apply below_alloc | apply pw_below_drewN | apply below_drew1) | exact HB.out)))); have n1_ := Aside0.mk (below_step (by repeat (first | (with_reducible first | exact HB.out | apply below_alloc | apply pw_below_drewN | apply below_drew1) | exact HB.out)) hb); clear HB; have HO177 := n0_; have HB := n1_; clear n0_ n1_; (try clear hb); (try clear hb2); (try clear hk); (try clear hi); (try clear ho0)))
  go_ret2
  exact ⟨_, by first | rfl | (simp [errW_none, errW_some] <;> rfl) | (simp [*, errW_none, errW_some] <;> rfl), by (with_reducible repeat (first | apply Kd.R_alloc | apply Kd.R_drewN | apply Kd.R_drew)); exact HO177.out, by repeat (first | (with_reducible first | exact HB.out | apply below_alloc | apply pw_below_drewN | apply below_drew1) | exact HB.out)⟩
 ·rw [if_neg c3] at H
  have c3b0 : (t174 == 0) = false := beq_eq_false_iff_ne.mpr c3
  have c3b1 : (t174 != 0) = true := bne_iff_ne.mpr c3
  simp only [Option.some.injEq, Prod.mk.injEq] at H
  obtain ⟨rfl, rfl⟩ := H
  go_enter Try.func21, Try.ntmps21
  go_wp2_with (first | ((with_reducible refine gate_callee (f := 54) rfl ?_); refine goesL_ (some 8) rfl rfl Try.func54 (by kernel_rfl) rfl #[.slice A0 l0.length c0] rfl (by (try simp only [List.map_toArray, List.map_cons, List.map_nil]); first | done | rfl | (simp only [List.length_drop, List.length_take]; rfl)) ?_; (with_reducible refine (plait_of.calls k _ _ l0 t174 _ ?side1 ?side2 A2.out).mono ?_); (case side1 => repeat (first | exact HR0.out | (with_reducible refine Kd.C_alloc ?_ _) | (with_reducible refine Kd.C_drewN ?_ _) | (with_reducible refine Kd.C_drew ?_))); (case side2 => exact HC0.out); rintro e w7 ⟨rfl, hb⟩; refine ⟨_, rfl, ?_⟩; have n0_ := Aside0.mk (below_step (by repeat (first | (with_reducible first | exact HB.out | apply below_alloc | apply pw_below_drewN | apply below_drew1) | exact HB.out)) hb); clear HB; have HB := n0_; clear n0_; (try clear hb); (try clear hb2); (try clear hk); (try clear hi)))
  go_ret2
  exact ⟨_, by first | rfl | (simp [errW_none, errW_some] <;> rfl) | (simp [*, errW_none, errW_some] <;> rfl), by first | exact Kd.R_nil _ _ _ _ _ | exact Kd.N_nil _ _ _ _ _ | exact Kd.V_nil _ _ _ _ _ | exact Kd.Q_nil _ _ _ _ _ | exact Kd.S_nil _ _ _ _ _, by repeat (first | (with_reducible first | exact HB.out | apply below_alloc | apply pw_below_drewN | apply below_drew1) | exact HB.out)⟩
end Go.Proofs.Ytjfkompfkgjdaaa.PC
end
section
/- strings.Repeat: its contract, out of the library's own (laid by the kit's program at this dump, in plain words). -/
namespace Go.Proofs.Ytjfkompfkgjdaaa.PC
open Go.Shelf
def lays105_ren : Go.Shelf.Ren := ⟨fun | 105 => 59 | 212 => 80 | 99 => 81 | 165 => 82 | 166 => 83 | 170 => 84 | 169 => 85 | 263 => 90 | 264 => 91 | 206 => 92 | 240 => 93 | 241 => 94 | 276 => 96 | 277 => 97 | n => n, fun | 9 => 9 | 3 => 3 | 4 => 4 | 20 => 20 | 0 => 0 | 46 => 97 | 109 => 98 | 5 => 5 | 72 => 102 | 76 => 106 | 51 => 115 | 146 => 116 | 53 => 118 | 148 => 119 | 70 => 100 | 37 => 60 | 75 => 105 | 127 => 121 | 164 => 123 | 80 => 108 | n => n, fun | n => n⟩
theorem lays105 : Go.Proofs.Lays.n105 Try.prog lays105_ren := {
  mixed := by kernel_rfl
  f99 := Try.func81.trans (congrArg some (by kernel_rfl))
  f105 := Try.func59.trans (congrArg some (by kernel_rfl))
  f165 := Try.func82.trans (congrArg some (by kernel_rfl))
  f166 := Try.func83.trans (congrArg some (by kernel_rfl))
  f169 := Try.func85.trans (congrArg some (by kernel_rfl))
  f170 := Try.func84.trans (congrArg some (by kernel_rfl))
  f206 := Try.func92.trans (congrArg some (by kernel_rfl))
  f212 := Try.func80.trans (congrArg some (by kernel_rfl))
  f240 := Try.func93.trans (congrArg some (by kernel_rfl))
  f241 := Try.func94.trans (congrArg some (by kernel_rfl))
  f263 := Try.func90.trans (congrArg some (by kernel_rfl))
  f264 := Try.func91.trans (congrArg some (by kernel_rfl))
  f276 := Try.func96.trans (congrArg some (by kernel_rfl))
  f277 := Try.func97.trans (congrArg some (by kernel_rfl))
  t0 := Try.underlying0
  a0 := Try.isAgg0
  z0 := Try.sizeOf0
  v0 := Try.zeroValue0
  t3 := Try.underlying3
  a3 := Try.isAgg3
  z3 := Try.sizeOf3
  v3 := Try.zeroValue3
  t4 := Try.underlying4
  a4 := Try.isAgg4
  z4 := Try.sizeOf4
  v4 := Try.zeroValue4
  t5 := Try.underlying5
  a5 := Try.isAgg5
  z5 := Try.sizeOf5
  v5 := Try.zeroValue5
  t9 := Try.underlying9
  a9 := Try.isAgg9
  z9 := Try.sizeOf9
  v9 := Try.zeroValue9
  t20 := Try.underlying20
  a20 := Try.isAgg20
  z20 := Try.sizeOf20
  v20 := Try.zeroValue20
  t37 := Try.underlying60
  a37 := Try.isAgg60
  z37 := Try.sizeOf60
  v37 := Try.zeroValue60
  t46 := Try.underlying97
  a46 := Try.isAgg97
  z46 := Try.sizeOf97
  v46 := Try.zeroValue97
  t51 := Try.underlying115
  a51 := Try.isAgg115
  z51 := Try.sizeOf115
  v51 := Try.zeroValue115
  t53 := Try.underlying118
  a53 := Try.isAgg118
  z53 := Try.sizeOf118
  v53 := Try.zeroValue118
  t70 := Try.underlying100
  a70 := Try.isAgg100
  z70 := Try.sizeOf100
  v70 := Try.zeroValue100
  t72 := Try.underlying102
  a72 := Try.isAgg102
  z72 := Try.sizeOf102
  v72 := Try.zeroValue102
  t75 := Try.underlying105
  a75 := Try.isAgg105
  z75 := Try.sizeOf105
  v75 := Try.zeroValue105
  t76 := Try.underlying106
  a76 := Try.isAgg106
  z76 := Try.sizeOf106
  v76 := Try.zeroValue106
  t109 := Try.underlying98
  a109 := Try.isAgg98
  z109 := Try.sizeOf98
  v109 := Try.zeroValue98
  t127 := Try.underlying121
  a127 := Try.isAgg121
  z127 := Try.sizeOf121
  v127 := Try.zeroValue121
  t146 := Try.underlying116
  a146 := Try.isAgg116
  z146 := Try.sizeOf116
  v146 := Try.zeroValue116
  t148 := Try.underlying119
  a148 := Try.isAgg119
  z148 := Try.sizeOf119
  v148 := Try.zeroValue119
  t164 := Try.underlying123
  a164 := Try.isAgg123
  z164 := Try.sizeOf123
  v164 := Try.zeroValue123 }
theorem extra105 : Builder.Extra Try.prog lays105_ren := {
  sizeBuilder := by kernel_rfl
  liesBuilder := by kernel_rfl
  t5 := Try.underlying5
  a5 := Try.isAgg5
  z5 := Try.sizeOf5
  v5 := Try.zeroValue5
  infoByte := by kernel_rfl
  cellsByte := by kernel_rfl
  sizeByte := by kernel_rfl
  neB5 := by decide }
open Go.RowKit Go.Lib in
theorem repeat_any (s : ByteArray) (c : Nat) (w : World) (hc : c ≤ 9223372036854775807) (hlen : s.size * c ≤ 140737488355328) :
    Calls Try.prog 59 #[.string s, .int .i64 c] w fun e w' => e = .returned (.string ⟨(Lib.repeatL s.data.toList c).toArray⟩) ∧ Below w.heap.size w w' := Any.strings_Repeat lays105 extra105 s c w hc hlen
end Go.Proofs.Ytjfkompfkgjdaaa.PC
end
section
namespace Go.Proofs.Ytjfkompfkgjdaaa.PC
open Go.RowKit Go.Proofs.YtjfkompfkgjdaaaW.PrintWords Go.Proofs.YtjfkompfkgjdaaaW.PrintLast Go.Proofs.YtjfkompfkgjdaaaW.PrintMore
attribute [local go_sem] max2_int min2_int max_two min_two max_three min_three max_four min_four   -- for this text's walks alone
set_option linter.unusedVariables false
set_option linter.unusedSimpArgs false
/-! ### strings_Repeat: function 59 -/
/-- so many copies -/
def strings_Repeat.f (a0 : ByteArray) (a1 : Int) : Option (ByteArray) := if 0 ≤ a1 ∧ a1 ≤ 1000000 ∧ a0.size ≤ 100 then some ⟨(Lib.repeatL a0.data.toList a1.toNat).toArray⟩ else none
theorem strings_Repeat.calls (a0 : ByteArray) (a1 : Int) (r : ByteArray) (w : World) (h : strings_Repeat.f a0 a1 = some r) :
  Calls Try.prog 59 #[.string a0, .int .i64 a1] w fun e w' => e = .returned (.string r) ∧ Below w.heap.size w w' := by
 unfold strings_Repeat.f at h
 by_cases c : 0 ≤ a1 ∧ a1 ≤ 1000000 ∧ a0.size ≤ 100
 ·rw [if_pos c] at h
  have h := Option.some.inj h
  subst h
  obtain ⟨c1_, c2_, c3_⟩ := c
  obtain ⟨n, rfl⟩ := Int.eq_ofNat_of_zero_le c1_
  exact repeat_any a0 n w (by omega) (Nat.le_trans (Nat.mul_le_mul c3_ (by omega : n ≤ 1000000)) (by omega))
 ·rw [if_neg c] at h
  cases h
end Go.Proofs.Ytjfkompfkgjdaaa.PC
end
