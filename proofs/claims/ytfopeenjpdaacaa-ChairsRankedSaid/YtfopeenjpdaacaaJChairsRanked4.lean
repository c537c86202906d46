/- Parts of the proof of LawChairsRanked, one behind the other: PCf15 LSit MPark LPark MRank MRanked PCf65 PCf64 LGoing LAll MTotal PCf46 PCf48 LRank PureChairsRanked. -/
import Derived.Test.YtfopeenjpdaacaaJChairsRanked3
section
namespace Go.Proofs.Ytfopeenjpdaacaa.PC
open Go.RowKit Go.Proofs.YtfopeenjpdaacaaW.PrintWords Go.Proofs.YtfopeenjpdaacaaW.PrintLast Go.Proofs.YtfopeenjpdaacaaW.PrintMore
attribute [local go_sem] max2_int min2_int max_two min_two max_three min_three max_four min_four   -- for this text's walks alone
set_option linter.unusedVariables false
set_option linter.unusedSimpArgs false
/-! ### pomadelaw03_ChairsRanked: function 15 -/
mutual
def pomadelaw03_ChairsRanked.j0 : Nat → Int → Int → Int → Option (Bool)
 | 0, _, _, _ => none
 | k + 1, x1, x2, x3 => (chairs_Count.f k (wrap64 (1 + (wrap64 (Int.tmod x1 16)))) (wrap64 (1 + (wrap64 (Int.tmod x1 16))))).bind fun bt658 => (if bt658.2 = 0 then (pomadelaw03_ChairsRanked.j1 k x2 x3 (wrap64 (1 + (wrap64 (Int.tmod x1 16)))) bt658.1 (decide (bt658.1 < 1))) else (pomadelaw03_ChairsRanked.j1 k x2 x3 (wrap64 (1 + (wrap64 (Int.tmod x1 16)))) bt658.1 true))
def pomadelaw03_ChairsRanked.j1 : Nat → Int → Int → Int → Int → Bool → Option (Bool)
 | 0, _, _, _, _, _ => none
 | k + 1, x2, x3, x13, x14, x66 => if x66 = true then (some false) else (if (IntKind.u64.wrap (x14)) = 0 then (none) else ((chairs_At.f k x13 (wrap64 (Int.tmod x2 (IntKind.u64.wrap (x14))))).bind fun bt660 => ((chairs_At.f k x13 (wrap64 (Int.tmod x3 (IntKind.u64.wrap (x14))))).bind fun bt664 => ((chairs_Rank.f k bt660.1).bind fun bt668 => ((chairs_At.f k x13 x14).bind fun bt670 => (if bt660.2 = 0 then (if bt664.2 = 0 then (if bt668.2 = 0 then (if bt668.1 = (wrap64 (Int.tmod x2 (IntKind.u64.wrap (x14)))) then (if bt670.2 = 4 then (if (bt660.1.length : Int) = x13 then (pomadelaw03_ChairsRanked.j2 k x13 (wrap64 (Int.tmod x2 (IntKind.u64.wrap (x14)))) (wrap64 (Int.tmod x3 (IntKind.u64.wrap (x14)))) bt660.1 bt664.1 ((bt664.1.length : Int) != x13)) else (pomadelaw03_ChairsRanked.j2 k x13 (wrap64 (Int.tmod x2 (IntKind.u64.wrap (x14)))) (wrap64 (Int.tmod x3 (IntKind.u64.wrap (x14)))) bt660.1 bt664.1 true)) else (pomadelaw03_ChairsRanked.j2 k x13 (wrap64 (Int.tmod x2 (IntKind.u64.wrap (x14)))) (wrap64 (Int.tmod x3 (IntKind.u64.wrap (x14)))) bt660.1 bt664.1 true)) else (pomadelaw03_ChairsRanked.j2 k x13 (wrap64 (Int.tmod x2 (IntKind.u64.wrap (x14)))) (wrap64 (Int.tmod x3 (IntKind.u64.wrap (x14)))) bt660.1 bt664.1 true)) else (pomadelaw03_ChairsRanked.j2 k x13 (wrap64 (Int.tmod x2 (IntKind.u64.wrap (x14)))) (wrap64 (Int.tmod x3 (IntKind.u64.wrap (x14)))) bt660.1 bt664.1 true)) else (pomadelaw03_ChairsRanked.j2 k x13 (wrap64 (Int.tmod x2 (IntKind.u64.wrap (x14)))) (wrap64 (Int.tmod x3 (IntKind.u64.wrap (x14)))) bt660.1 bt664.1 true)) else (pomadelaw03_ChairsRanked.j2 k x13 (wrap64 (Int.tmod x2 (IntKind.u64.wrap (x14)))) (wrap64 (Int.tmod x3 (IntKind.u64.wrap (x14)))) bt660.1 bt664.1 true)))))))
def pomadelaw03_ChairsRanked.j2 : Nat → Int → Int → Int → List Int → List Int → Bool → Option (Bool)
 | 0, _, _, _, _, _, _ => none
 | k + 1, x13, x16, x17, x18, x19, x130 => if x130 = true then (some false) else (pomadelaw03_ChairsRanked.l0 k x13 x16 x17 x18 x19 0)
def pomadelaw03_ChairsRanked.l0 : Nat → Int → Int → Int → List Int → List Int → Int → Option (Bool)
 | 0, _, _, _, _, _, _ => none
 | k + 1, x13, x16, x17, x18, x19, x24 => if x24 < x13 then (if 0 ≤ x24 then (if x24 < (x18.length : Int) then (if x24 < (x19.length : Int) then (if (rd x18 x24) = (rd x19 x24) then (pomadelaw03_ChairsRanked.l0 k x13 x16 x17 x18 x19 (wrap64 (x24 + 1))) else (if ((decide ((rd x18 x24) < (rd x19 x24))) == (decide (x16 < x17))) = true then ((pomadelaw03_alive.f).bind fun t678 => (some t678)) else (some false))) else (none)) else (none)) else (none)) else (if x16 = x17 then ((pomadelaw03_alive.f).bind fun t679 => (some t679)) else (some false))
end
def pomadelaw03_ChairsRanked.f (k : Nat) (l0 : List Int) (a1 : Int) (a2 : Int) (a3 : Int) : Option (Bool) := if (l0.length : Int) > 60 then ((pomadelaw03_alive.f).bind fun t650 => (some t650)) else ((chairs_Rank.f k l0).bind fun bt651 => (if bt651.2 = 0 then ((chairs_At.f k (l0.length : Int) bt651.1).bind fun bt653 => (if bt653.2 = 0 then ((pomadelaw03_same.f k bt653.1 l0).bind fun t657 => (if t657 = true then (pomadelaw03_ChairsRanked.j0 k a1 a2 a3) else (some false))) else (some false))) else (pomadelaw03_ChairsRanked.j0 k a1 a2 a3)))
theorem pomadelaw03_ChairsRanked.mono_l : ∀ k, (∀ y0 y1 y2, LeO (pomadelaw03_ChairsRanked.j0 k y0 y1 y2) (pomadelaw03_ChairsRanked.j0 (k + 1) y0 y1 y2)) ∧ (∀ y0 y1 y2 y3 y4, LeO (pomadelaw03_ChairsRanked.j1 k y0 y1 y2 y3 y4) (pomadelaw03_ChairsRanked.j1 (k + 1) y0 y1 y2 y3 y4)) ∧ (∀ y0 y1 y2 y3 y4 y5, LeO (pomadelaw03_ChairsRanked.j2 k y0 y1 y2 y3 y4 y5) (pomadelaw03_ChairsRanked.j2 (k + 1) y0 y1 y2 y3 y4 y5)) ∧ (∀ y0 y1 y2 y3 y4 y5, LeO (pomadelaw03_ChairsRanked.l0 k y0 y1 y2 y3 y4 y5) (pomadelaw03_ChairsRanked.l0 (k + 1) y0 y1 y2 y3 y4 y5))
 | 0 => ⟨fun _ _ _ r h => by simp [pomadelaw03_ChairsRanked.j0] at h, fun _ _ _ _ _ r h => by simp [pomadelaw03_ChairsRanked.j1] at h, fun _ _ _ _ _ _ r h => by simp [pomadelaw03_ChairsRanked.j2] at h, fun _ _ _ _ _ _ r h => by simp [pomadelaw03_ChairsRanked.l0] at h⟩
 | k + 1 => by
  obtain ⟨ih0, ih1, ih2, ih3⟩ := pomadelaw03_ChairsRanked.mono_l k
  refine ⟨?_, ?_, ?_, ?_⟩
  ·intro y0 y1 y2
   unfold pomadelaw03_ChairsRanked.j0
   repeat' first
   | (with_reducible exact ih0 _ _ _)
   | (with_reducible exact ih1 _ _ _ _ _)
   | (with_reducible exact ih2 _ _ _ _ _ _)
   | (with_reducible exact ih3 _ _ _ _ _ _)
   | (with_reducible exact chairs_At.mono _ _ _)
   | (with_reducible exact chairs_Count.mono _ _ _)
   | (with_reducible exact chairs_Rank.mono _ _)
   | (with_reducible exact pomadelaw03_same.mono _ _ _)
   | (with_reducible exact LeO.refl _)
   | (with_reducible exact LeO.none _)
   | (with_reducible refine LeO.ite ?_ ?_)
   | (with_reducible refine LeO.bind ?_ (fun _ => ?_))
   | exact ih0 _ _ _
   | exact ih1 _ _ _ _ _
   | exact ih2 _ _ _ _ _ _
   | exact ih3 _ _ _ _ _ _
   | exact chairs_At.mono _ _ _
   | exact chairs_Count.mono _ _ _
   | exact chairs_Rank.mono _ _
   | exact pomadelaw03_same.mono _ _ _
   | exact LeO.none _
   | refine LeO.ite ?_ ?_
   | refine LeO.bind ?_ (fun _ => ?_)
  ·intro y0 y1 y2 y3 y4
   unfold pomadelaw03_ChairsRanked.j1
   repeat' first
   | (with_reducible exact ih0 _ _ _)
   | (with_reducible exact ih1 _ _ _ _ _)
   | (with_reducible exact ih2 _ _ _ _ _ _)
   | (with_reducible exact ih3 _ _ _ _ _ _)
   | (with_reducible exact chairs_At.mono _ _ _)
   | (with_reducible exact chairs_Count.mono _ _ _)
   | (with_reducible exact chairs_Rank.mono _ _)
   | (with_reducible exact pomadelaw03_same.mono _ _ _)
   | (with_reducible exact LeO.refl _)
   | (with_reducible exact LeO.none _)
   | (with_reducible refine LeO.ite ?_ ?_)
   | (with_reducible refine LeO.bind ?_ (fun _ => ?_))
   | exact ih0 _ _ _
   | exact ih1 _ _ _ _ _
   | exact ih2 _ _ _ _ _ _
   | exact ih3 _ _ _ _ _ _
   | exact chairs_At.mono _ _ _
   | exact chairs_Count.mono _ _ _
   | exact chairs_Rank.mono _ _
   | exact pomadelaw03_same.mono _ _ _
   | exact LeO.none _
   | refine LeO.ite ?_ ?_
   | refine LeO.bind ?_ (fun _ => ?_)
  ·intro y0 y1 y2 y3 y4 y5
   unfold pomadelaw03_ChairsRanked.j2
   repeat' first
   | (with_reducible exact ih0 _ _ _)
   | (with_reducible exact ih1 _ _ _ _ _)
   | (with_reducible exact ih2 _ _ _ _ _ _)
   | (with_reducible exact ih3 _ _ _ _ _ _)
   | (with_reducible exact chairs_At.mono _ _ _)
   | (with_reducible exact chairs_Count.mono _ _ _)
   | (with_reducible exact chairs_Rank.mono _ _)
   | (with_reducible exact pomadelaw03_same.mono _ _ _)
   | (with_reducible exact LeO.refl _)
   | (with_reducible exact LeO.none _)
   | (with_reducible refine LeO.ite ?_ ?_)
   | (with_reducible refine LeO.bind ?_ (fun _ => ?_))
   | exact ih0 _ _ _
   | exact ih1 _ _ _ _ _
   | exact ih2 _ _ _ _ _ _
   | exact ih3 _ _ _ _ _ _
   | exact chairs_At.mono _ _ _
   | exact chairs_Count.mono _ _ _
   | exact chairs_Rank.mono _ _
   | exact pomadelaw03_same.mono _ _ _
   | exact LeO.none _
   | refine LeO.ite ?_ ?_
   | refine LeO.bind ?_ (fun _ => ?_)
  ·intro y0 y1 y2 y3 y4 y5
   unfold pomadelaw03_ChairsRanked.l0
   repeat' first
   | (with_reducible exact ih0 _ _ _)
   | (with_reducible exact ih1 _ _ _ _ _)
   | (with_reducible exact ih2 _ _ _ _ _ _)
   | (with_reducible exact ih3 _ _ _ _ _ _)
   | (with_reducible exact chairs_At.mono _ _ _)
   | (with_reducible exact chairs_Count.mono _ _ _)
   | (with_reducible exact chairs_Rank.mono _ _)
   | (with_reducible exact pomadelaw03_same.mono _ _ _)
   | (with_reducible exact LeO.refl _)
   | (with_reducible exact LeO.none _)
   | (with_reducible refine LeO.ite ?_ ?_)
   | (with_reducible refine LeO.bind ?_ (fun _ => ?_))
   | exact ih0 _ _ _
   | exact ih1 _ _ _ _ _
   | exact ih2 _ _ _ _ _ _
   | exact ih3 _ _ _ _ _ _
   | exact chairs_At.mono _ _ _
   | exact chairs_Count.mono _ _ _
   | exact chairs_Rank.mono _ _
   | exact pomadelaw03_same.mono _ _ _
   | exact LeO.none _
   | refine LeO.ite ?_ ?_
   | refine LeO.bind ?_ (fun _ => ?_)
theorem pomadelaw03_ChairsRanked.mono : ∀ a0 a1 a2 a3 k, LeO (pomadelaw03_ChairsRanked.f k a0 a1 a2 a3) (pomadelaw03_ChairsRanked.f (k + 1) a0 a1 a2 a3) := by
 intro a0 a1 a2 a3 k
 obtain ⟨ih0, ih1, ih2, ih3⟩ := pomadelaw03_ChairsRanked.mono_l k
 unfold pomadelaw03_ChairsRanked.f
 repeat' first
   | (with_reducible exact ih0 _ _ _)
   | (with_reducible exact ih1 _ _ _ _ _)
   | (with_reducible exact ih2 _ _ _ _ _ _)
   | (with_reducible exact ih3 _ _ _ _ _ _)
   | (with_reducible exact chairs_At.mono _ _ _)
   | (with_reducible exact chairs_Count.mono _ _ _)
   | (with_reducible exact chairs_Rank.mono _ _)
   | (with_reducible exact pomadelaw03_same.mono _ _ _)
   | (with_reducible exact LeO.refl _)
   | (with_reducible exact LeO.none _)
   | (with_reducible refine LeO.ite ?_ ?_)
   | (with_reducible refine LeO.bind ?_ (fun _ => ?_))
   | exact ih0 _ _ _
   | exact ih1 _ _ _ _ _
   | exact ih2 _ _ _ _ _ _
   | exact ih3 _ _ _ _ _ _
   | exact chairs_At.mono _ _ _
   | exact chairs_Count.mono _ _ _
   | exact chairs_Rank.mono _ _
   | exact pomadelaw03_same.mono _ _ _
   | exact LeO.none _
   | refine LeO.ite ?_ ?_
   | refine LeO.bind ?_ (fun _ => ?_)
def pomadelaw03_ChairsRanked.T12 : Bool × List (List Nat × List Nat) := (true, [([], []), ([], []), ([1], [1]), ([0, 2], [0, 2]), ([3], [3]), ([], []), ([], []), ([6], [6]), ([5, 7], [5, 7]), ([8], [8]), ([4, 0, 1, 2, 3, 4], [4]), ([9, 10, 0, 1, 2, 3, 4, 5, 6, 7, 8, 9, 10], [9])])
def pomadelaw03_ChairsRanked.B12 : List Nat := [0, 0, 2, 7, 15, 0, 0, 64, 224, 480, 31, 2047]
theorem pomadelaw03_ChairsRanked.tab12 : rtab .any (opsOf Try.f15 12) = pomadelaw03_ChairsRanked.T12 := by kernel_rfl
theorem pomadelaw03_ChairsRanked.bits12 : waitsOk pomadelaw03_ChairsRanked.T12.2 pomadelaw03_ChairsRanked.B12 = true := by kernel_rfl
def pomadelaw03_ChairsRanked.T22 : Bool × List (List Nat × List Nat) := (true, [([], []), ([], []), ([0, 1], [0, 1]), ([2], [2]), ([], []), ([], []), ([4, 5], [4, 5]), ([6], [6]), ([3, 7], [3, 7])])
def pomadelaw03_ChairsRanked.B22 : List Nat := [0, 0, 3, 7, 0, 0, 48, 112, 255]
theorem pomadelaw03_ChairsRanked.tab22 : rtab .any (opsOf Try.f15 22) = pomadelaw03_ChairsRanked.T22 := by kernel_rfl
theorem pomadelaw03_ChairsRanked.bits22 : waitsOk pomadelaw03_ChairsRanked.T22.2 pomadelaw03_ChairsRanked.B22 = true := by kernel_rfl
def pomadelaw03_ChairsRanked.T23 : Bool × List (List Nat × List Nat) := (true, [([], []), ([], []), ([0, 1], [0, 1]), ([2], [2]), ([], []), ([], []), ([4, 5], [4, 5]), ([6], [6]), ([3, 7], [3, 7]), ([], []), ([], []), ([9, 10], [9, 10]), ([8, 11], [8, 11]), ([12], [12]), ([13, 13], [13]), ([13, 14], [13, 14]), ([15, 14, 0, 1, 2, 3, 4, 5, 6, 7, 8, 9, 10, 11, 12, 13, 14, 15], [15])])
def pomadelaw03_ChairsRanked.B23 : List Nat := [0, 0, 3, 7, 0, 0, 48, 112, 255, 0, 0, 1536, 4095, 8191, 16383, 32767, 65535]
theorem pomadelaw03_ChairsRanked.tab23 : rtab .any (opsOf Try.f15 23) = pomadelaw03_ChairsRanked.T23 := by kernel_rfl
theorem pomadelaw03_ChairsRanked.bits23 : waitsOk pomadelaw03_ChairsRanked.T23.2 pomadelaw03_ChairsRanked.B23 = true := by kernel_rfl
set_option maxHeartbeats 8000000 in
set_option maxRecDepth 100000 in
theorem pomadelaw03_ChairsRanked.calls (k : Nat) (A0 : Option Addr) (c0 : Nat) (l0 : List Int) (a1 : Int) (a2 : Int) (a3 : Int) (r : Bool) (w : World) (hr0 : Kd.C (Kd.int .i64) w A0 l0.length l0) (hc0 : l0.length ≤ c0) (h : pomadelaw03_ChairsRanked.f k l0 a1 a2 a3 = some r) :
  Calls Try.prog 15 #[.slice A0 l0.length c0, .int .u8 a1, .int .u64 a2, .int .u64 a3] w fun e w' => e = .returned (.bool r) ∧ Below w.heap.size w w' := by
 have HR0 := Aside0.mk hr0
 have HC0 := Aside0.mk hc0
 clear hr0 hc0
 have HB := Aside0.mk (Below.refl w.heap.size w)
 have H : (if (l0.length : Int) > 60 then ((pomadelaw03_alive.f).bind fun t650 => (some t650)) else ((chairs_Rank.f k l0).bind fun bt651 => (if bt651.2 = 0 then ((chairs_At.f k (l0.length : Int) bt651.1).bind fun bt653 => (if bt653.2 = 0 then ((pomadelaw03_same.f k bt653.1 l0).bind fun t657 => (if t657 = true then (pomadelaw03_ChairsRanked.j0 k a1 a2 a3) else (some false))) else (some false))) else (pomadelaw03_ChairsRanked.j0 k a1 a2 a3)))) = some r := h
 clear h
 by_cases c5 : (l0.length : Int) > 60
 ·rw [if_pos c5] at H
  have c5b0 : decide (60 < (l0.length : Int)) = true := decide_eq_true c5
  have c5b1 : decide (60 < l0.length) = true := decide_eq_true (by omega)
  clear c5
  replace H := Option.bind_eq_some_iff.mp H
  obtain ⟨t650, A60, H⟩ := H
  replace H : (some t650) = some r := H
  have A6 := Aside0.mk A60
  clear A60
  obtain rfl := Option.some.inj H
  go_enter Try.func15, Try.ntmps15
  go_wp2_with (first | ((with_reducible refine gate_callee (f := 17) rfl ?_); refine goesL_ (some 28) rfl rfl Try.func17 (by kernel_rfl) rfl #[] rfl (by (try simp only [List.map_toArray, List.map_cons, List.map_nil]); first | done | rfl | (simp only [List.length_drop, List.length_take]; rfl)) ?_; (with_reducible refine (pomadelaw03_alive.calls  t650 _ A6.out).mono ?_); rintro e w7 ⟨rfl, hb⟩; refine ⟨_, rfl, ?_⟩; have n0_ := Aside0.mk (below_step (by repeat (first | (with_reducible first | exact HB.out | apply below_alloc | apply pw_below_drewN | apply below_drew1) | exact HB.out)) hb); clear HB; have HB := n0_; clear n0_; (try clear hb); (try clear hb2); (try clear hk); (try clear hi)))
  go_ret
  exact ⟨by first | rfl | (simp [errW_none, errW_some] <;> rfl) | (simp [*, errW_none, errW_some] <;> rfl), by repeat (first | (with_reducible first | exact HB.out | apply below_alloc | apply pw_below_drewN | apply below_drew1) | exact HB.out)⟩
 ·rw [if_neg c5] at H
  have c5b0 : decide (60 < (l0.length : Int)) = false := decide_eq_false c5
  have c5b1 : decide (60 < l0.length) = false := decide_eq_false (by omega)
  clear c5
  replace H := Option.bind_eq_some_iff.mp H
  obtain ⟨⟨t651, t652⟩, A80, H⟩ := H
  replace H : (if t652 = 0 then ((chairs_At.f k (l0.length : Int) t651).bind fun bt653 => (if bt653.2 = 0 then ((pomadelaw03_same.f k bt653.1 l0).bind fun t657 => (if t657 = true then (pomadelaw03_ChairsRanked.j0 k a1 a2 a3) else (some false))) else (some false))) else (pomadelaw03_ChairsRanked.j0 k a1 a2 a3)) = some r := H
  have A8 := Aside0.mk A80
  clear A80
  have HC9 := Aside0.mk H
  clear H
  go_enter Try.func15, Try.ntmps15
  go_upto_if 35 with (first | ((with_reducible refine gate_callee (f := 45) rfl ?_); refine goesL_ (some 31) rfl rfl Try.func45 (by kernel_rfl) rfl #[.slice A0 l0.length c0] rfl (by (try simp only [List.map_toArray, List.map_cons, List.map_nil]); first | done | rfl | (simp only [List.length_drop, List.length_take]; rfl)) ?_; (with_reducible refine (chairs_Rank.calls k _ _ l0 t651 t652 _ ?side1 ?side2 A8.out).mono ?_); (case side1 => repeat (first | exact HR0.out | (with_reducible refine Kd.C_alloc ?_ _) | (with_reducible refine Kd.C_drewN ?_ _) | (with_reducible refine Kd.C_drew ?_))); (case side2 => exact HC0.out); rintro e w10 ⟨rfl, hb⟩; refine ⟨_, rfl, ?_⟩; have n0_ := Aside0.mk (below_step (by repeat (first | (with_reducible first | exact HB.out | apply below_alloc | apply pw_below_drewN | apply below_drew1) | exact HB.out)) hb); clear HB; have HB := n0_; clear n0_; (try clear hb); (try clear hb2); (try clear hk); (try clear hi)))
  (try simp only [Act.put, List.setIfInBounds_toArray, List.set_cons_zero, List.set_cons_succ])
  go_cut [] (fun wc => ∃ (kq : Nat), Aside0 (pomadelaw03_ChairsRanked.j0 kq a1 a2 a3 = some r) ∧ Aside0 (kq ≤ k) ∧ Aside0 (Below w.heap.size w wc))
  case first =>
   have H := HC9.out
   clear HC9
   by_cases c11 : t652 = 0
   ·rw [if_pos c11] at H
    have c11b0 : (t652 == 0) = true := beq_iff_eq.mpr c11
    have c11b1 : (t652 != 0) = false := bne_eq_false_iff_eq.mpr c11
    clear c11
    (first | rw [c11b0] | (simp only [i64_w, i32_w]; rw [c11b0]) | skip)
    replace H := Option.bind_eq_some_iff.mp H
    obtain ⟨⟨t653, t654⟩, A120, H⟩ := H
    replace H : (if t654 = 0 then ((pomadelaw03_same.f k t653 l0).bind fun t657 => (if t657 = true then (pomadelaw03_ChairsRanked.j0 k a1 a2 a3) else (some false))) else (some false)) = some r := H
    have A12 := Aside0.mk A120
    clear A120
    by_cases c13 : t654 = 0
    ·rw [if_pos c13] at H
     have c13b0 : (t654 == 0) = true := beq_iff_eq.mpr c13
     have c13b1 : (t654 != 0) = false := bne_eq_false_iff_eq.mpr c13
     clear c13
     replace H := Option.bind_eq_some_iff.mp H
     obtain ⟨t657, A140, H⟩ := H
     replace H : (if t657 = true then (pomadelaw03_ChairsRanked.j0 k a1 a2 a3) else (some false)) = some r := H
     have A14 := Aside0.mk A140
     clear A140
     by_cases c15 : t657 = true
     ·subst c15
      have H1 : (pomadelaw03_ChairsRanked.j0 k a1 a2 a3) = some r := by rw [if_pos rfl] at H; exact H
      clear H
      have H := H1
      clear H1
      have H' := Aside0.mk H
      clear H
      go_wp2_with (first | ((with_reducible refine gate_callee (f := 47) rfl ?_); refine goesL_ (some 40) rfl rfl Try.func47 (by kernel_rfl) rfl #[.int .i64 (l0.length : Int), .int .i64 t651] rfl (by (try simp only [List.map_toArray, List.map_cons, List.map_nil]); first | done | rfl | (simp only [List.length_drop, List.length_take]; rfl)) ?_; (with_reducible refine (chairs_At.calls k (l0.length : Int) t651 t653 t654 _ A12.out).mono ?_); rintro e w16 ⟨v655, rfl, ho0, hb⟩; refine ⟨_, rfl, ?_⟩; have n0_ := Aside0.mk (Kd.R_lower ho0 (below_size (by repeat (first | (with_reducible first | exact HB.out | apply below_alloc | apply pw_below_drewN | apply below_drew1) | exact HB.out)))); have n1_ := Aside0.mk (below_step (by repeat (first | (with_reducible first | exact HB.out | apply below_alloc | apply pw_below_drewN | apply below_drew1) | exact HB.out)) hb); clear HB; have HO656 := n0_; have HB := n1_; clear n0_ n1_; (try clear hb); (try clear hb2); (try clear hk); (try clear hi); (try clear ho0); obtain ⟨Ao17, co17, eo17⟩ := Kd.R_slice HO656.out; subst eo17) | (go_at_call 26; (with_reducible refine (pomadelaw03_same.calls k _ _ t653 _ _ l0 true _ ?side1 ?side2 ?side3 ?side4 A14.out).mono ?_); (case side1 => repeat (first | exact (Kd.R_reads' HO656.out).2.2 | (with_reducible refine Kd.C_alloc ?_ _) | (with_reducible refine Kd.C_drewN ?_ _) | (with_reducible refine Kd.C_drew ?_))); (case side2 => exact (Kd.R_reads' HO656.out).2.1); (case side3 => repeat (first | exact (Kd.C_below HR0.out HB.out) | (with_reducible refine Kd.C_alloc ?_ _) | (with_reducible refine Kd.C_drewN ?_ _) | (with_reducible refine Kd.C_drew ?_))); (case side4 => exact HC0.out); rintro e w' ⟨rfl, ⟨nd, rfl⟩⟩))
      go_meet
      case rel => exact ⟨_, H', ⟨by first | omega | exact Nat.le_refl _⟩, ⟨by repeat (first | (with_reducible first | exact HB.out | apply below_alloc | apply pw_below_drewN | apply below_drew1) | exact HB.out)⟩⟩
     ·replace c15 := Bool.eq_false_iff.mpr c15
      subst c15
      have H1 : (some false) = some r := by rw [if_neg (show ¬ (false = true) by decide)] at H; exact H
      clear H
      have H := H1
      clear H1
      obtain rfl := Option.some.inj H
      go_wp2_with (first | ((with_reducible refine gate_callee (f := 47) rfl ?_); refine goesL_ (some 40) rfl rfl Try.func47 (by kernel_rfl) rfl #[.int .i64 (l0.length : Int), .int .i64 t651] rfl (by (try simp only [List.map_toArray, List.map_cons, List.map_nil]); first | done | rfl | (simp only [List.length_drop, List.length_take]; rfl)) ?_; (with_reducible refine (chairs_At.calls k (l0.length : Int) t651 t653 t654 _ A12.out).mono ?_); rintro e w18 ⟨v655, rfl, ho0, hb⟩; refine ⟨_, rfl, ?_⟩; have n0_ := Aside0.mk (Kd.R_lower ho0 (below_size (by repeat (first | (with_reducible first | exact HB.out | apply below_alloc | apply pw_below_drewN | apply below_drew1) | exact HB.out)))); have n1_ := Aside0.mk (below_step (by repeat (first | (with_reducible first | exact HB.out | apply below_alloc | apply pw_below_drewN | apply below_drew1) | exact HB.out)) hb); clear HB; have HO656 := n0_; have HB := n1_; clear n0_ n1_; (try clear hb); (try clear hb2); (try clear hk); (try clear hi); (try clear ho0); obtain ⟨Ao19, co19, eo19⟩ := Kd.R_slice HO656.out; subst eo19) | (go_at_call 26; (with_reducible refine (pomadelaw03_same.calls k _ _ t653 _ _ l0 false _ ?side1 ?side2 ?side3 ?side4 A14.out).mono ?_); (case side1 => repeat (first | exact (Kd.R_reads' HO656.out).2.2 | (with_reducible refine Kd.C_alloc ?_ _) | (with_reducible refine Kd.C_drewN ?_ _) | (with_reducible refine Kd.C_drew ?_))); (case side2 => exact (Kd.R_reads' HO656.out).2.1); (case side3 => repeat (first | exact (Kd.C_below HR0.out HB.out) | (with_reducible refine Kd.C_alloc ?_ _) | (with_reducible refine Kd.C_drewN ?_ _) | (with_reducible refine Kd.C_drew ?_))); (case side4 => exact HC0.out); rintro e w' ⟨rfl, ⟨nd, rfl⟩⟩))
      go_ret
      exact ⟨by first | rfl | (simp [errW_none, errW_some] <;> rfl) | (simp [*, errW_none, errW_some] <;> rfl), by repeat (first | (with_reducible first | exact HB.out | apply below_alloc | apply pw_below_drewN | apply below_drew1) | exact HB.out)⟩
    ·rw [if_neg c13] at H
     have c13b0 : (t654 == 0) = false := beq_eq_false_iff_ne.mpr c13
     have c13b1 : (t654 != 0) = true := bne_iff_ne.mpr c13
     obtain rfl := Option.some.inj H
     go_wp2_with (first | ((with_reducible refine gate_callee (f := 47) rfl ?_); refine goesL_ (some 40) rfl rfl Try.func47 (by kernel_rfl) rfl #[.int .i64 (l0.length : Int), .int .i64 t651] rfl (by (try simp only [List.map_toArray, List.map_cons, List.map_nil]); first | done | rfl | (simp only [List.length_drop, List.length_take]; rfl)) ?_; (with_reducible refine (chairs_At.calls k (l0.length : Int) t651 t653 t654 _ A12.out).mono ?_); rintro e w20 ⟨v655, rfl, ho0, hb⟩; refine ⟨_, rfl, ?_⟩; have n0_ := Aside0.mk (Kd.R_lower ho0 (below_size (by repeat (first | (with_reducible first | exact HB.out | apply below_alloc | apply pw_below_drewN | apply below_drew1) | exact HB.out)))); have n1_ := Aside0.mk (below_step (by repeat (first | (with_reducible first | exact HB.out | apply below_alloc | apply pw_below_drewN | apply below_drew1) | exact HB.out)) hb); clear HB; have HO656 := n0_; have HB := n1_; clear n0_ n1_; (try clear hb); (try clear hb2); (try clear hk); (try clear hi); (try clear ho0)))
     go_ret
     exact ⟨by first | rfl | (simp [errW_none, errW_some] <;> rfl) | (simp [*, errW_none, errW_some] <;> rfl), by repeat (first | (with_reducible first | exact HB.out | apply below_alloc | apply pw_below_drewN | apply below_drew1) | exact HB.out)⟩
   ·rw [if_neg c11] at H
    have c11b0 : (t652 == 0) = false := beq_eq_false_iff_ne.mpr c11
    have c11b1 : (t652 != 0) = true := bne_iff_ne.mpr c11
    (first | rw [c11b0] | (simp only [i64_w, i32_w]; rw [c11b0]) | skip)
    have H' := Aside0.mk H
    clear H
    go_wp2
    go_meet
    case rel => exact ⟨_, H', ⟨by first | omega | exact Nat.le_refl _⟩, ⟨by repeat (first | (with_reducible first | exact HB.out | apply below_alloc | apply pw_below_drewN | apply below_drew1) | exact HB.out)⟩⟩
  case rest =>
   clear HC9
   try clear c1
   try clear p2
   try clear c4
   try clear c5
   try clear c5b0
   try clear c5b1
   try clear c11
   try clear c11b0
   try clear c11b1
   try clear c13
   try clear c13b0
   try clear c13b1
   try clear c15
   try clear c17
   obtain ⟨kq, HA, HJ8, HB⟩ := hcut
   cases kq with
   | zero => exact absurd HA.out (by simp [pomadelaw03_ChairsRanked.j0])
   | succ kj8 =>
    have H := HA.out
    clear HA
    simp only [pomadelaw03_ChairsRanked.j0] at H
    replace H := Option.bind_eq_some_iff.mp H
    obtain ⟨⟨t658, t659⟩, A210, H⟩ := H
    replace H : (if t659 = 0 then (pomadelaw03_ChairsRanked.j1 kj8 a2 a3 (wrap64 (1 + (wrap64 (Int.tmod a1 16)))) t658 (decide (t658 < 1))) else (pomadelaw03_ChairsRanked.j1 kj8 a2 a3 (wrap64 (1 + (wrap64 (Int.tmod a1 16)))) t658 true)) = some r := H
    have A21 := Aside0.mk A210
    clear A210
    have HC22 := Aside0.mk H
    clear H
    go_upto_region 10 with (first | ((with_reducible refine gate_callee (f := 18) rfl ?_); refine goesL_ (some 58) rfl rfl Try.func18 (by kernel_rfl) rfl #[.int .i64 (wrap64 (1 + (wrap64 (Int.tmod a1 16)))), .int .i64 (wrap64 (1 + (wrap64 (Int.tmod a1 16))))] rfl (by (try simp only [List.map_toArray, List.map_cons, List.map_nil]); first | done | rfl | (simp only [List.length_drop, List.length_take]; rfl)) ?_; (with_reducible refine (chairs_Count.calls kj8 (wrap64 (1 + (wrap64 (Int.tmod a1 16)))) (wrap64 (1 + (wrap64 (Int.tmod a1 16)))) t658 t659 _ A21.out).mono ?_); rintro e w' ⟨rfl, ⟨nd, rfl⟩⟩; refine ⟨_, rfl, ?_⟩))
    (try simp only [Act.put, List.setIfInBounds_toArray, List.set_cons_zero, List.set_cons_succ])
    go_cut [66] (fun v66 wc => ∃ (kq : Nat) (x66_21 : Bool), v66 = .bool x66_21 ∧ Aside0 (pomadelaw03_ChairsRanked.j1 kq a2 a3 (wrap64 (1 + (wrap64 (Int.tmod a1 16)))) t658 x66_21 = some r) ∧ Aside0 (kq ≤ kj8) ∧ Aside0 (Below w.heap.size w wc))
    case first =>
     have H := HC22.out
     clear HC22
     by_cases c23 : t659 = 0
     ·rw [if_pos c23] at H
      have c23b0 : (t659 == 0) = true := beq_iff_eq.mpr c23
      have c23b1 : (t659 != 0) = false := bne_eq_false_iff_eq.mpr c23
      clear c23
      (first | rw [c23b0] | (simp only [i64_w, i32_w]; rw [c23b0]) | skip)
      have H' := Aside0.mk H
      clear H
      go_wp2
      go_meet
      case rel => exact ⟨_, (decide (t658 < 1)), (by first | rfl | (simp; done) | (simp [*]; done)), H', ⟨by have := HJ8.out; first | omega | exact Nat.le_refl _⟩, ⟨by repeat (first | (with_reducible first | exact HB.out | apply below_alloc | apply pw_below_drewN | apply below_drew1) | exact HB.out)⟩⟩
     ·rw [if_neg c23] at H
      have c23b0 : (t659 == 0) = false := beq_eq_false_iff_ne.mpr c23
      have c23b1 : (t659 != 0) = true := bne_iff_ne.mpr c23
      (first | rw [c23b0] | (simp only [i64_w, i32_w]; rw [c23b0]) | skip)
      have H' := Aside0.mk H
      clear H
      go_wp2
      go_meet
      case rel => exact ⟨_, (true), (by first | rfl | (simp; done) | (simp [*]; done)), H', ⟨by have := HJ8.out; first | omega | exact Nat.le_refl _⟩, ⟨by repeat (first | (with_reducible first | exact HB.out | apply below_alloc | apply pw_below_drewN | apply below_drew1) | exact HB.out)⟩⟩
    case rest =>
     clear HC22
     try clear c1
     try clear c2
     try clear p2
     try clear c4
     try clear c5
     try clear c5b0
     try clear c5b1
     try clear p6
     try clear c11
     try clear c11b0
     try clear c11b1
     try clear c13
     try clear c13b0
     try clear c13b1
     try clear c15
     try clear c17
     try clear c18
     try clear c23
     try clear c23b0
     try clear c23b1
     try clear p2
     obtain ⟨kq, x66_21, rfl, HA, HJ21, HB⟩ := hcut
     cases kq with
     | zero => exact absurd HA.out (by simp [pomadelaw03_ChairsRanked.j1])
     | succ kj21 =>
      have H := HA.out
      clear HA
      simp only [pomadelaw03_ChairsRanked.j1] at H
      by_cases c24 : x66_21 = true
      ·subst c24
       have H1 : (some false) = some r := by rw [if_pos rfl] at H; exact H
       clear H
       have H := H1
       clear H1
       obtain rfl := Option.some.inj H
       go_wp2
       go_ret
       exact ⟨by first | rfl | (simp [errW_none, errW_some] <;> rfl) | (simp [*, errW_none, errW_some] <;> rfl), by repeat (first | (with_reducible first | exact HB.out | apply below_alloc | apply pw_below_drewN | apply below_drew1) | exact HB.out)⟩
      ·replace c24 := Bool.eq_false_iff.mpr c24
       subst c24
       have H1 : (if (IntKind.u64.wrap (t658)) = 0 then (none) else ((chairs_At.f kj21 (wrap64 (1 + (wrap64 (Int.tmod a1 16)))) (wrap64 (Int.tmod a2 (IntKind.u64.wrap (t658))))).bind fun bt660 => ((chairs_At.f kj21 (wrap64 (1 + (wrap64 (Int.tmod a1 16)))) (wrap64 (Int.tmod a3 (IntKind.u64.wrap (t658))))).bind fun bt664 => ((chairs_Rank.f kj21 bt660.1).bind fun bt668 => ((chairs_At.f kj21 (wrap64 (1 + (wrap64 (Int.tmod a1 16)))) t658).bind fun bt670 => (if bt660.2 = 0 then (if bt664.2 = 0 then (if bt668.2 = 0 then (if bt668.1 = (wrap64 (Int.tmod a2 (IntKind.u64.wrap (t658)))) then (if bt670.2 = 4 then (if (bt660.1.length : Int) = (wrap64 (1 + (wrap64 (Int.tmod a1 16)))) then (pomadelaw03_ChairsRanked.j2 kj21 (wrap64 (1 + (wrap64 (Int.tmod a1 16)))) (wrap64 (Int.tmod a2 (IntKind.u64.wrap (t658)))) (wrap64 (Int.tmod a3 (IntKind.u64.wrap (t658)))) bt660.1 bt664.1 ((bt664.1.length : Int) != (wrap64 (1 + (wrap64 (Int.tmod a1 16)))))) else (pomadelaw03_ChairsRanked.j2 kj21 (wrap64 (1 + (wrap64 (Int.tmod a1 16)))) (wrap64 (Int.tmod a2 (IntKind.u64.wrap (t658)))) (wrap64 (Int.tmod a3 (IntKind.u64.wrap (t658)))) bt660.1 bt664.1 true)) else (pomadelaw03_ChairsRanked.j2 kj21 (wrap64 (1 + (wrap64 (Int.tmod a1 16)))) (wrap64 (Int.tmod a2 (IntKind.u64.wrap (t658)))) (wrap64 (Int.tmod a3 (IntKind.u64.wrap (t658)))) bt660.1 bt664.1 true)) else (pomadelaw03_ChairsRanked.j2 kj21 (wrap64 (1 + (wrap64 (Int.tmod a1 16)))) (wrap64 (Int.tmod a2 (IntKind.u64.wrap (t658)))) (wrap64 (Int.tmod a3 (IntKind.u64.wrap (t658)))) bt660.1 bt664.1 true)) else (pomadelaw03_ChairsRanked.j2 kj21 (wrap64 (1 + (wrap64 (Int.tmod a1 16)))) (wrap64 (Int.tmod a2 (IntKind.u64.wrap (t658)))) (wrap64 (Int.tmod a3 (IntKind.u64.wrap (t658)))) bt660.1 bt664.1 true)) else (pomadelaw03_ChairsRanked.j2 kj21 (wrap64 (1 + (wrap64 (Int.tmod a1 16)))) (wrap64 (Int.tmod a2 (IntKind.u64.wrap (t658)))) (wrap64 (Int.tmod a3 (IntKind.u64.wrap (t658)))) bt660.1 bt664.1 true)) else (pomadelaw03_ChairsRanked.j2 kj21 (wrap64 (1 + (wrap64 (Int.tmod a1 16)))) (wrap64 (Int.tmod a2 (IntKind.u64.wrap (t658)))) (wrap64 (Int.tmod a3 (IntKind.u64.wrap (t658)))) bt660.1 bt664.1 true))))))) = some r := by rw [if_neg (show ¬ (false = true) by decide)] at H; exact H
       clear H
       have H := H1
       clear H1
       by_cases c25 : (IntKind.u64.wrap (t658)) = 0
       ·rw [if_pos c25] at H
        exact absurd H (by simp)
       ·rw [if_neg c25] at H
        have c25b0 : ((IntKind.u64.wrap (t658)) == 0) = false := beq_eq_false_iff_ne.mpr c25
        have c25b1 : ((IntKind.u64.wrap (t658)) != 0) = true := bne_iff_ne.mpr c25
        replace H := Option.bind_eq_some_iff.mp H
        obtain ⟨⟨t660, t661⟩, A260, H⟩ := H
        replace H : ((chairs_At.f kj21 (wrap64 (1 + (wrap64 (Int.tmod a1 16)))) (wrap64 (Int.tmod a3 (IntKind.u64.wrap (t658))))).bind fun bt664 => ((chairs_Rank.f kj21 t660).bind fun bt668 => ((chairs_At.f kj21 (wrap64 (1 + (wrap64 (Int.tmod a1 16)))) t658).bind fun bt670 => (if t661 = 0 then (if bt664.2 = 0 then (if bt668.2 = 0 then (if bt668.1 = (wrap64 (Int.tmod a2 (IntKind.u64.wrap (t658)))) then (if bt670.2 = 4 then (if (t660.length : Int) = (wrap64 (1 + (wrap64 (Int.tmod a1 16)))) then (pomadelaw03_ChairsRanked.j2 kj21 (wrap64 (1 + (wrap64 (Int.tmod a1 16)))) (wrap64 (Int.tmod a2 (IntKind.u64.wrap (t658)))) (wrap64 (Int.tmod a3 (IntKind.u64.wrap (t658)))) t660 bt664.1 ((bt664.1.length : Int) != (wrap64 (1 + (wrap64 (Int.tmod a1 16)))))) else (pomadelaw03_ChairsRanked.j2 kj21 (wrap64 (1 + (wrap64 (Int.tmod a1 16)))) (wrap64 (Int.tmod a2 (IntKind.u64.wrap (t658)))) (wrap64 (Int.tmod a3 (IntKind.u64.wrap (t658)))) t660 bt664.1 true)) else (pomadelaw03_ChairsRanked.j2 kj21 (wrap64 (1 + (wrap64 (Int.tmod a1 16)))) (wrap64 (Int.tmod a2 (IntKind.u64.wrap (t658)))) (wrap64 (Int.tmod a3 (IntKind.u64.wrap (t658)))) t660 bt664.1 true)) else (pomadelaw03_ChairsRanked.j2 kj21 (wrap64 (1 + (wrap64 (Int.tmod a1 16)))) (wrap64 (Int.tmod a2 (IntKind.u64.wrap (t658)))) (wrap64 (Int.tmod a3 (IntKind.u64.wrap (t658)))) t660 bt664.1 true)) else (pomadelaw03_ChairsRanked.j2 kj21 (wrap64 (1 + (wrap64 (Int.tmod a1 16)))) (wrap64 (Int.tmod a2 (IntKind.u64.wrap (t658)))) (wrap64 (Int.tmod a3 (IntKind.u64.wrap (t658)))) t660 bt664.1 true)) else (pomadelaw03_ChairsRanked.j2 kj21 (wrap64 (1 + (wrap64 (Int.tmod a1 16)))) (wrap64 (Int.tmod a2 (IntKind.u64.wrap (t658)))) (wrap64 (Int.tmod a3 (IntKind.u64.wrap (t658)))) t660 bt664.1 true)) else (pomadelaw03_ChairsRanked.j2 kj21 (wrap64 (1 + (wrap64 (Int.tmod a1 16)))) (wrap64 (Int.tmod a2 (IntKind.u64.wrap (t658)))) (wrap64 (Int.tmod a3 (IntKind.u64.wrap (t658)))) t660 bt664.1 true))))) = some r := H
        have A26 := Aside0.mk A260
        clear A260
        replace H := Option.bind_eq_some_iff.mp H
        obtain ⟨⟨t664, t665⟩, A270, H⟩ := H
        replace H : ((chairs_Rank.f kj21 t660).bind fun bt668 => ((chairs_At.f kj21 (wrap64 (1 + (wrap64 (Int.tmod a1 16)))) t658).bind fun bt670 => (if t661 = 0 then (if t665 = 0 then (if bt668.2 = 0 then (if bt668.1 = (wrap64 (Int.tmod a2 (IntKind.u64.wrap (t658)))) then (if bt670.2 = 4 then (if (t660.length : Int) = (wrap64 (1 + (wrap64 (Int.tmod a1 16)))) then (pomadelaw03_ChairsRanked.j2 kj21 (wrap64 (1 + (wrap64 (Int.tmod a1 16)))) (wrap64 (Int.tmod a2 (IntKind.u64.wrap (t658)))) (wrap64 (Int.tmod a3 (IntKind.u64.wrap (t658)))) t660 t664 ((t664.length : Int) != (wrap64 (1 + (wrap64 (Int.tmod a1 16)))))) else (pomadelaw03_ChairsRanked.j2 kj21 (wrap64 (1 + (wrap64 (Int.tmod a1 16)))) (wrap64 (Int.tmod a2 (IntKind.u64.wrap (t658)))) (wrap64 (Int.tmod a3 (IntKind.u64.wrap (t658)))) t660 t664 true)) else (pomadelaw03_ChairsRanked.j2 kj21 (wrap64 (1 + (wrap64 (Int.tmod a1 16)))) (wrap64 (Int.tmod a2 (IntKind.u64.wrap (t658)))) (wrap64 (Int.tmod a3 (IntKind.u64.wrap (t658)))) t660 t664 true)) else (pomadelaw03_ChairsRanked.j2 kj21 (wrap64 (1 + (wrap64 (Int.tmod a1 16)))) (wrap64 (Int.tmod a2 (IntKind.u64.wrap (t658)))) (wrap64 (Int.tmod a3 (IntKind.u64.wrap (t658)))) t660 t664 true)) else (pomadelaw03_ChairsRanked.j2 kj21 (wrap64 (1 + (wrap64 (Int.tmod a1 16)))) (wrap64 (Int.tmod a2 (IntKind.u64.wrap (t658)))) (wrap64 (Int.tmod a3 (IntKind.u64.wrap (t658)))) t660 t664 true)) else (pomadelaw03_ChairsRanked.j2 kj21 (wrap64 (1 + (wrap64 (Int.tmod a1 16)))) (wrap64 (Int.tmod a2 (IntKind.u64.wrap (t658)))) (wrap64 (Int.tmod a3 (IntKind.u64.wrap (t658)))) t660 t664 true)) else (pomadelaw03_ChairsRanked.j2 kj21 (wrap64 (1 + (wrap64 (Int.tmod a1 16)))) (wrap64 (Int.tmod a2 (IntKind.u64.wrap (t658)))) (wrap64 (Int.tmod a3 (IntKind.u64.wrap (t658)))) t660 t664 true)))) = some r := H
        have A27 := Aside0.mk A270
        clear A270
        replace H := Option.bind_eq_some_iff.mp H
        obtain ⟨⟨t668, t669⟩, A280, H⟩ := H
        replace H : ((chairs_At.f kj21 (wrap64 (1 + (wrap64 (Int.tmod a1 16)))) t658).bind fun bt670 => (if t661 = 0 then (if t665 = 0 then (if t669 = 0 then (if t668 = (wrap64 (Int.tmod a2 (IntKind.u64.wrap (t658)))) then (if bt670.2 = 4 then (if (t660.length : Int) = (wrap64 (1 + (wrap64 (Int.tmod a1 16)))) then (pomadelaw03_ChairsRanked.j2 kj21 (wrap64 (1 + (wrap64 (Int.tmod a1 16)))) (wrap64 (Int.tmod a2 (IntKind.u64.wrap (t658)))) (wrap64 (Int.tmod a3 (IntKind.u64.wrap (t658)))) t660 t664 ((t664.length : Int) != (wrap64 (1 + (wrap64 (Int.tmod a1 16)))))) else (pomadelaw03_ChairsRanked.j2 kj21 (wrap64 (1 + (wrap64 (Int.tmod a1 16)))) (wrap64 (Int.tmod a2 (IntKind.u64.wrap (t658)))) (wrap64 (Int.tmod a3 (IntKind.u64.wrap (t658)))) t660 t664 true)) else (pomadelaw03_ChairsRanked.j2 kj21 (wrap64 (1 + (wrap64 (Int.tmod a1 16)))) (wrap64 (Int.tmod a2 (IntKind.u64.wrap (t658)))) (wrap64 (Int.tmod a3 (IntKind.u64.wrap (t658)))) t660 t664 true)) else (pomadelaw03_ChairsRanked.j2 kj21 (wrap64 (1 + (wrap64 (Int.tmod a1 16)))) (wrap64 (Int.tmod a2 (IntKind.u64.wrap (t658)))) (wrap64 (Int.tmod a3 (IntKind.u64.wrap (t658)))) t660 t664 true)) else (pomadelaw03_ChairsRanked.j2 kj21 (wrap64 (1 + (wrap64 (Int.tmod a1 16)))) (wrap64 (Int.tmod a2 (IntKind.u64.wrap (t658)))) (wrap64 (Int.tmod a3 (IntKind.u64.wrap (t658)))) t660 t664 true)) else (pomadelaw03_ChairsRanked.j2 kj21 (wrap64 (1 + (wrap64 (Int.tmod a1 16)))) (wrap64 (Int.tmod a2 (IntKind.u64.wrap (t658)))) (wrap64 (Int.tmod a3 (IntKind.u64.wrap (t658)))) t660 t664 true)) else (pomadelaw03_ChairsRanked.j2 kj21 (wrap64 (1 + (wrap64 (Int.tmod a1 16)))) (wrap64 (Int.tmod a2 (IntKind.u64.wrap (t658)))) (wrap64 (Int.tmod a3 (IntKind.u64.wrap (t658)))) t660 t664 true))) = some r := H
        have A28 := Aside0.mk A280
        clear A280
        replace H := Option.bind_eq_some_iff.mp H
        obtain ⟨⟨t670, t671⟩, A290, H⟩ := H
        replace H : (if t661 = 0 then (if t665 = 0 then (if t669 = 0 then (if t668 = (wrap64 (Int.tmod a2 (IntKind.u64.wrap (t658)))) then (if t671 = 4 then (if (t660.length : Int) = (wrap64 (1 + (wrap64 (Int.tmod a1 16)))) then (pomadelaw03_ChairsRanked.j2 kj21 (wrap64 (1 + (wrap64 (Int.tmod a1 16)))) (wrap64 (Int.tmod a2 (IntKind.u64.wrap (t658)))) (wrap64 (Int.tmod a3 (IntKind.u64.wrap (t658)))) t660 t664 ((t664.length : Int) != (wrap64 (1 + (wrap64 (Int.tmod a1 16)))))) else (pomadelaw03_ChairsRanked.j2 kj21 (wrap64 (1 + (wrap64 (Int.tmod a1 16)))) (wrap64 (Int.tmod a2 (IntKind.u64.wrap (t658)))) (wrap64 (Int.tmod a3 (IntKind.u64.wrap (t658)))) t660 t664 true)) else (pomadelaw03_ChairsRanked.j2 kj21 (wrap64 (1 + (wrap64 (Int.tmod a1 16)))) (wrap64 (Int.tmod a2 (IntKind.u64.wrap (t658)))) (wrap64 (Int.tmod a3 (IntKind.u64.wrap (t658)))) t660 t664 true)) else (pomadelaw03_ChairsRanked.j2 kj21 (wrap64 (1 + (wrap64 (Int.tmod a1 16)))) (wrap64 (Int.tmod a2 (IntKind.u64.wrap (t658)))) (wrap64 (Int.tmod a3 (IntKind.u64.wrap (t658)))) t660 t664 true)) else (pomadelaw03_ChairsRanked.j2 kj21 (wrap64 (1 + (wrap64 (Int.tmod a1 16)))) (wrap64 (Int.tmod a2 (IntKind.u64.wrap (t658)))) (wrap64 (Int.tmod a3 (IntKind.u64.wrap (t658)))) t660 t664 true)) else (pomadelaw03_ChairsRanked.j2 kj21 (wrap64 (1 + (wrap64 (Int.tmod a1 16)))) (wrap64 (Int.tmod a2 (IntKind.u64.wrap (t658)))) (wrap64 (Int.tmod a3 (IntKind.u64.wrap (t658)))) t660 t664 true)) else (pomadelaw03_ChairsRanked.j2 kj21 (wrap64 (1 + (wrap64 (Int.tmod a1 16)))) (wrap64 (Int.tmod a2 (IntKind.u64.wrap (t658)))) (wrap64 (Int.tmod a3 (IntKind.u64.wrap (t658)))) t660 t664 true)) = some r := H
        have A29 := Aside0.mk A290
        clear A290
        have HC30 := Aside0.mk H
        clear H
        try go_wp2
        have n0_ := Aside0.mk (below_drew1 HB.out)
        clear HB
        have HB := n0_
        clear n0_
        refine start_ (n := 12) (S := fun w' => True) (ds := []) #[false, false, false, false, false, false, false, false, false, false, false, false] (by kernel_rfl) rfl rfl trivial (fun hHeld => ?_); refine with_tabW pomadelaw03_ChairsRanked.tab12 pomadelaw03_ChairsRanked.bits12 (fun HT_ HW_ => ?_)
        generalize wc.drew = w31 at HB hHeld ⊢
        refine pure_ (i := 0) (N := some 67) (v := ?_) (a' := ?_) #[true, false, false, false, false, false, false, false, false, false, false, false] rfl rfl (any_of HT_.out (by kernel_rfl)) (fun _ _ _ h => h) (Or.inl ⟨by rfl, ?_⟩) ?_ ?_
        rotate_left
        ·intro w'
         go_simp
         with_reducible rfl
        rotate_left
        ·simp only [Act.put, List.setIfInBounds_toArray, List.set_cons_zero, List.set_cons_succ, i64_w, i32_w]
         rfl
        refine pure_ (i := 1) (N := some 68) (v := ?_) (a' := ?_) #[true, true, false, false, false, false, false, false, false, false, false, false] rfl rfl (any_of HT_.out (by kernel_rfl)) (fun _ _ _ h => h) (Or.inl ⟨by rfl, ?_⟩) ?_ ?_
        rotate_left
        ·intro w'
         go_simp
         with_reducible rfl
        rotate_left
        ·simp only [Act.put, List.setIfInBounds_toArray, List.set_cons_zero, List.set_cons_succ, i64_w, i32_w]
         rfl
        refine pure_ (i := 2) (N := some 69) (v := ?_) (a' := ?_) #[true, true, true, false, false, false, false, false, false, false, false, false] rfl rfl (any_of HT_.out (by kernel_rfl)) (fun _ _ _ h => h) (Or.inl ⟨by rfl, ?_⟩) ?_ ?_
        rotate_left
        ·intro w'
         go_simp
         with_reducible rfl
        rotate_left
        ·simp only [Act.put, List.setIfInBounds_toArray, List.set_cons_zero, List.set_cons_succ, i64_w, i32_w]
         rfl
        refine pure_ (i := 3) (N := some 70) (v := ?_) (a' := ?_) #[true, true, true, true, false, false, false, false, false, false, false, false] rfl rfl (any_of HT_.out (by kernel_rfl)) (fun _ _ _ h => h) (Or.inl ⟨by rfl, ?_⟩) ?_ ?_
        rotate_left
        ·intro w'
         go_simp
         with_reducible rfl
        rotate_left
        ·simp only [Act.put, List.setIfInBounds_toArray, List.set_cons_zero, List.set_cons_succ, i64_w, i32_w]
         rfl
        refine pure_ (i := 4) (N := some 71) (v := ?_) (a' := ?_) #[true, true, true, true, true, false, false, false, false, false, false, false] rfl rfl (any_of HT_.out (by kernel_rfl)) (fun _ _ _ h => h) (Or.inl ⟨by rfl, ?_⟩) ?_ ?_
        rotate_left
        ·intro w'
         go_simp
         with_reducible rfl
        rotate_left
        ·simp only [Act.put, List.setIfInBounds_toArray, List.set_cons_zero, List.set_cons_succ, i64_w, i32_w]
         rfl
        refine pure_ (i := 5) (N := some 72) (v := ?_) (a' := ?_) #[true, true, true, true, true, true, false, false, false, false, false, false] rfl rfl (any_of HT_.out (by kernel_rfl)) (fun _ _ _ h => h) (Or.inl ⟨by rfl, ?_⟩) ?_ ?_
        rotate_left
        ·intro w'
         go_simp
         with_reducible rfl
        rotate_left
        ·simp only [Act.put, List.setIfInBounds_toArray, List.set_cons_zero, List.set_cons_succ, i64_w, i32_w]
         rfl
        refine pure_ (i := 6) (N := some 73) (v := ?_) (a' := ?_) #[true, true, true, true, true, true, true, false, false, false, false, false] rfl rfl (any_of HT_.out (by kernel_rfl)) (fun _ _ _ h => h) (Or.inl ⟨by rfl, ?_⟩) ?_ ?_
        rotate_left
        ·intro w'
         go_simp
         with_reducible rfl
        rotate_left
        ·simp only [Act.put, List.setIfInBounds_toArray, List.set_cons_zero, List.set_cons_succ, i64_w, i32_w]
         rfl
        refine pure_ (i := 7) (N := some 74) (v := ?_) (a' := ?_) #[true, true, true, true, true, true, true, true, false, false, false, false] rfl rfl (any_of HT_.out (by kernel_rfl)) (fun _ _ _ h => h) (Or.inl ⟨by rfl, ?_⟩) ?_ ?_
        rotate_left
        ·intro w'
         go_simp
         with_reducible rfl
        rotate_left
        ·simp only [Act.put, List.setIfInBounds_toArray, List.set_cons_zero, List.set_cons_succ, i64_w, i32_w]
         rfl
        refine pure_ (i := 8) (N := some 75) (v := ?_) (a' := ?_) #[true, true, true, true, true, true, true, true, true, false, false, false] rfl rfl (any_of HT_.out (by kernel_rfl)) (fun _ _ _ h => h) (Or.inl ⟨by rfl, ?_⟩) ?_ ?_
        rotate_left
        ·intro w'
         go_simp
         with_reducible rfl
        rotate_left
        ·simp only [Act.put, List.setIfInBounds_toArray, List.set_cons_zero, List.set_cons_succ, i64_w, i32_w]
         rfl
        refine pure_ (i := 9) (N := some 76) (v := ?_) (a' := ?_) #[true, true, true, true, true, true, true, true, true, true, false, false] rfl rfl (any_of HT_.out (by kernel_rfl)) (fun _ _ _ h => h) (Or.inl ⟨by rfl, ?_⟩) ?_ ?_
        rotate_left
        ·intro w'
         go_simp
         with_reducible rfl
        rotate_left
        ·simp only [Act.put, List.setIfInBounds_toArray, List.set_cons_zero, List.set_cons_succ, i64_w, i32_w]
         rfl
        refine pure_ (i := 10) (N := some 16) (v := ?_) (a' := ?_) #[true, true, true, true, true, true, true, true, true, true, true, false] rfl rfl (any_of HT_.out (by kernel_rfl)) (fun _ _ _ h => h) (Or.inl ⟨by rfl, ?_⟩) ?_ ?_
        rotate_left
        ·intro w'
         go_simp
         with_reducible rfl
        rotate_left
        ·simp only [Act.put, List.setIfInBounds_toArray, List.set_cons_zero, List.set_cons_succ, i64_w, i32_w]
         rfl
        refine pure_ (i := 11) (N := some 17) (v := ?_) (a' := ?_) #[true, true, true, true, true, true, true, true, true, true, true, true] rfl rfl (any_of HT_.out (by kernel_rfl)) (fun _ _ _ h => h) (Or.inl ⟨by rfl, ?_⟩) ?_ ?_
        rotate_left
        ·intro w'
         go_simp
         with_reducible rfl
        rotate_left
        ·simp only [Act.put, List.setIfInBounds_toArray, List.set_cons_zero, List.set_cons_succ, i64_w, i32_w]
         rfl
        refine done_ (done_of HT_.out (by kernel_rfl)) ?_
        go_upto_region 17 with (first | ((with_reducible refine gate_callee (f := 47) rfl ?_); refine goesL_ (some 80) rfl rfl Try.func47 (by kernel_rfl) rfl #[.int .i64 (wrap64 (1 + (wrap64 (Int.tmod a1 16)))), .int .i64 (wrap64 (Int.tmod a2 (IntKind.u64.wrap (t658))))] rfl (by (try simp only [List.map_toArray, List.map_cons, List.map_nil]); first | done | rfl | (simp only [List.length_drop, List.length_take]; rfl)) ?_; (with_reducible refine (chairs_At.calls kj21 (wrap64 (1 + (wrap64 (Int.tmod a1 16)))) (wrap64 (Int.tmod a2 (IntKind.u64.wrap (t658)))) t660 t661 _ A26.out).mono ?_); rintro e w32 ⟨v662, rfl, ho0, hb⟩; refine ⟨_, rfl, ?_⟩; have n0_ := Aside0.mk (Kd.R_lower ho0 (below_size (by repeat (first | (with_reducible first | exact HB.out | apply below_alloc | apply pw_below_drewN | apply below_drew1) | exact HB.out)))); have n1_ := Aside0.mk (below_step (by repeat (first | (with_reducible first | exact HB.out | apply below_alloc | apply pw_below_drewN | apply below_drew1) | exact HB.out)) hb); clear HB; have HO663 := n0_; have HB := n1_; clear n0_ n1_; (try clear hb); (try clear hb2); (try clear hk); (try clear hi); (try clear ho0)) | ((with_reducible refine gate_callee (f := 47) rfl ?_); refine goesL_ (some 86) rfl rfl Try.func47 (by kernel_rfl) rfl #[.int .i64 (wrap64 (1 + (wrap64 (Int.tmod a1 16)))), .int .i64 (wrap64 (Int.tmod a3 (IntKind.u64.wrap (t658))))] rfl (by (try simp only [List.map_toArray, List.map_cons, List.map_nil]); first | done | rfl | (simp only [List.length_drop, List.length_take]; rfl)) ?_; (with_reducible refine (chairs_At.calls kj21 (wrap64 (1 + (wrap64 (Int.tmod a1 16)))) (wrap64 (Int.tmod a3 (IntKind.u64.wrap (t658)))) t664 t665 _ A27.out).mono ?_); rintro e w33 ⟨v666, rfl, ho0, hb⟩; refine ⟨_, rfl, ?_⟩; have n0_ := Aside0.mk (Kd.R_elder' (by (with_reducible repeat (first | apply Kd.R_alloc | apply Kd.R_drewN | apply Kd.R_drew)); exact HO663.out) (Kd.R_base ho0) hb); have n1_ := Aside0.mk (Kd.R_lower (Kd.R_new' ho0 (Kd.R_lt (by (with_reducible repeat (first | apply Kd.R_alloc | apply Kd.R_drewN | apply Kd.R_drew)); exact HO663.out))) (below_size (by repeat (first | (with_reducible first | exact HB.out | apply below_alloc | apply pw_below_drewN | apply below_drew1) | exact HB.out)))); have n2_ := Aside0.mk (below_step (by repeat (first | (with_reducible first | exact HB.out | apply below_alloc | apply pw_below_drewN | apply below_drew1) | exact HB.out)) hb); clear HO663; clear HB; have HO663 := n0_; have HO667 := n1_; have HB := n2_; clear n0_ n1_ n2_; (try clear hb); (try clear hb2); (try clear hk); (try clear hi); (try clear ho0); obtain ⟨Ao34, co34, eo34⟩ := Kd.R_slice HO663.out; subst eo34) | ((with_reducible refine gate_callee (f := 45) rfl ?_); refine goesL_ (some 91) rfl rfl Try.func45 (by kernel_rfl) rfl #[.slice Ao34 t660.length co34] rfl (by (try simp only [List.map_toArray, List.map_cons, List.map_nil]); first | done | rfl | (simp only [List.length_drop, List.length_take]; rfl)) ?_; (with_reducible refine (chairs_Rank.calls kj21 _ _ t660 t668 t669 _ ?side1 ?side2 A28.out).mono ?_); (case side1 => repeat (first | exact (Kd.R_reads' HO663.out).2.2 | (with_reducible refine Kd.C_alloc ?_ _) | (with_reducible refine Kd.C_drewN ?_ _) | (with_reducible refine Kd.C_drew ?_))); (case side2 => exact (Kd.R_reads' HO663.out).2.1); rintro e w35 ⟨rfl, hb⟩; refine ⟨_, rfl, ?_⟩; have n0_ := Aside0.mk (Kd.R_below (by (with_reducible repeat (first | apply Kd.R_alloc | apply Kd.R_drewN | apply Kd.R_drew)); exact HO663.out) hb); have n1_ := Aside0.mk (Kd.R_below (by (with_reducible repeat (first | apply Kd.R_alloc | apply Kd.R_drewN | apply Kd.R_drew)); exact HO667.out) hb); have n2_ := Aside0.mk (below_step (by repeat (first | (with_reducible first | exact HB.out | apply below_alloc | apply pw_below_drewN | apply below_drew1) | exact HB.out)) hb); clear HO663; clear HO667; clear HB; have HO663 := n0_; have HO667 := n1_; have HB := n2_; clear n0_ n1_ n2_; (try clear hb); (try clear hb2); (try clear hk); (try clear hi)) | ((with_reducible refine gate_callee (f := 47) rfl ?_); refine goesL_ (some 97) rfl rfl Try.func47 (by kernel_rfl) rfl #[.int .i64 (wrap64 (1 + (wrap64 (Int.tmod a1 16)))), .int .i64 t658] rfl (by (try simp only [List.map_toArray, List.map_cons, List.map_nil]); first | done | rfl | (simp only [List.length_drop, List.length_take]; rfl)) ?_; (with_reducible refine (chairs_At.calls kj21 (wrap64 (1 + (wrap64 (Int.tmod a1 16)))) t658 t670 t671 _ A29.out).mono ?_); rintro e w36 ⟨v672, rfl, ho0, hb⟩; refine ⟨_, rfl, ?_⟩; have n0_ := Aside0.mk (Kd.R_elder' (by (with_reducible repeat (first | apply Kd.R_alloc | apply Kd.R_drewN | apply Kd.R_drew)); exact HO663.out) (Kd.R_base ho0) hb); have n1_ := Aside0.mk (Kd.R_elder' (by (with_reducible repeat (first | apply Kd.R_alloc | apply Kd.R_drewN | apply Kd.R_drew)); exact HO667.out) (Kd.R_base ho0) hb); have n2_ := Aside0.mk (Kd.R_lower (Kd.R_new' (Kd.R_new' ho0 (Kd.R_lt (by (with_reducible repeat (first | apply Kd.R_alloc | apply Kd.R_drewN | apply Kd.R_drew)); exact HO663.out))) (Kd.R_lt (by (with_reducible repeat (first | apply Kd.R_alloc | apply Kd.R_drewN | apply Kd.R_drew)); exact HO667.out))) (below_size (by repeat (first | (with_reducible first | exact HB.out | apply below_alloc | apply pw_below_drewN | apply below_drew1) | exact HB.out)))); have n3_ := Aside0.mk (below_step (by repeat (first | (with_reducible first | exact HB.out | apply below_alloc | apply pw_below_drewN | apply below_drew1) | exact HB.out)) hb); clear HO663; clear HO667; clear HB; have HO663 := n0_; have HO667 := n1_; have HO673 := n2_; have HB := n3_; clear n0_ n1_ n2_ n3_; (try clear hb); (try clear hb2); (try clear hk); (try clear hi); (try clear ho0)))
        (try simp only [Act.put, List.setIfInBounds_toArray, List.set_cons_zero, List.set_cons_succ])
        go_cut [130] (fun v130 wc => ∃ (kq : Nat) (x130_29 : Bool), v130 = .bool x130_29 ∧ Aside0 (pomadelaw03_ChairsRanked.j2 kq (wrap64 (1 + (wrap64 (Int.tmod a1 16)))) (wrap64 (Int.tmod a2 (IntKind.u64.wrap (t658)))) (wrap64 (Int.tmod a3 (IntKind.u64.wrap (t658)))) t660 t664 x130_29 = some r) ∧ Aside0 (kq ≤ kj21) ∧ Aside0 (Kd.R (Kd.int .i64) 3 wc w.heap.size (fun k_ => some k_ ≠ (v666 : Value).ownBlock) (.slice Ao34 t660.length co34) t660) ∧ Aside0 (Kd.R (Kd.int .i64) 3 wc w.heap.size (fun k_ => some k_ ≠ ((.slice Ao34 t660.length co34) : Value).ownBlock) v666 t664) ∧ Aside0 (Below w.heap.size w wc))
        case first =>
         have H := HC30.out
         clear HC30
         by_cases c37 : t661 = 0
         ·rw [if_pos c37] at H
          have c37b0 : (t661 == 0) = true := beq_iff_eq.mpr c37
          have c37b1 : (t661 != 0) = false := bne_eq_false_iff_eq.mpr c37
          clear c37
          (first | rw [c37b0] | (simp only [i64_w, i32_w]; rw [c37b0]) | skip)
          by_cases c38 : t665 = 0
          ·rw [if_pos c38] at H
           have c38b0 : (t665 == 0) = true := beq_iff_eq.mpr c38
           have c38b1 : (t665 != 0) = false := bne_eq_false_iff_eq.mpr c38
           clear c38
           by_cases c39 : t669 = 0
           ·rw [if_pos c39] at H
            have c39b0 : (t669 == 0) = true := beq_iff_eq.mpr c39
            have c39b1 : (t669 != 0) = false := bne_eq_false_iff_eq.mpr c39
            clear c39
            by_cases c40 : t668 = (wrap64 (Int.tmod a2 (IntKind.u64.wrap (t658))))
            ·rw [if_pos c40] at H
             have c40b0 : (t668 == (wrap64 (Int.tmod a2 (IntKind.u64.wrap (t658))))) = true := beq_iff_eq.mpr c40
             have c40b1 : (t668 != (wrap64 (Int.tmod a2 (IntKind.u64.wrap (t658))))) = false := bne_eq_false_iff_eq.mpr c40
             clear c40
             by_cases c41 : t671 = 4
             ·rw [if_pos c41] at H
              have c41b0 : (t671 == 4) = true := beq_iff_eq.mpr c41
              have c41b1 : (t671 != 4) = false := bne_eq_false_iff_eq.mpr c41
              clear c41
              by_cases c42 : (t660.length : Int) = (wrap64 (1 + (wrap64 (Int.tmod a1 16))))
              ·rw [if_pos c42] at H
               have c42b0 : ((t660.length : Int) == (wrap64 (1 + (wrap64 (Int.tmod a1 16))))) = true := beq_iff_eq.mpr c42
               have c42b1 : ((t660.length : Int) != (wrap64 (1 + (wrap64 (Int.tmod a1 16))))) = false := bne_eq_false_iff_eq.mpr c42
               clear c42
               have H' := Aside0.mk H
               clear H
               obtain ⟨Ao43, co43, eo43⟩ := Kd.R_slice HO667.out
               subst eo43
               go_wp2
               go_meet
               case rel => exact ⟨_, (((t664.length : Int) != (wrap64 (1 + (wrap64 (Int.tmod a1 16)))))), (by first | rfl | (simp; done) | (simp [*]; done)), H', ⟨by have := HJ8.out; have := HJ21.out; first | omega | exact Nat.le_refl _⟩, ⟨by (with_reducible repeat (first | apply Kd.R_alloc | apply Kd.R_drewN | apply Kd.R_drew)); exact Kd.R_mono HO663.out (fun _ hk => hk.1.2)⟩, ⟨by (with_reducible repeat (first | apply Kd.R_alloc | apply Kd.R_drewN | apply Kd.R_drew)); exact Kd.R_mono HO667.out (fun _ hk => hk.1.2)⟩, ⟨by repeat (first | (with_reducible first | exact HB.out | apply below_alloc | apply pw_below_drewN | apply below_drew1) | exact HB.out)⟩⟩
              ·rw [if_neg c42] at H
               have c42b0 : ((t660.length : Int) == (wrap64 (1 + (wrap64 (Int.tmod a1 16))))) = false := beq_eq_false_iff_ne.mpr c42
               have c42b1 : ((t660.length : Int) != (wrap64 (1 + (wrap64 (Int.tmod a1 16))))) = true := bne_iff_ne.mpr c42
               have H' := Aside0.mk H
               clear H
               go_wp2
               go_meet
               case rel => exact ⟨_, (true), (by first | rfl | (simp; done) | (simp [*]; done)), H', ⟨by have := HJ8.out; have := HJ21.out; first | omega | exact Nat.le_refl _⟩, ⟨by (with_reducible repeat (first | apply Kd.R_alloc | apply Kd.R_drewN | apply Kd.R_drew)); exact Kd.R_mono HO663.out (fun _ hk => hk.1.2)⟩, ⟨by (with_reducible repeat (first | apply Kd.R_alloc | apply Kd.R_drewN | apply Kd.R_drew)); exact Kd.R_mono HO667.out (fun _ hk => hk.1.2)⟩, ⟨by repeat (first | (with_reducible first | exact HB.out | apply below_alloc | apply pw_below_drewN | apply below_drew1) | exact HB.out)⟩⟩
             ·rw [if_neg c41] at H
              have c41b0 : (t671 == 4) = false := beq_eq_false_iff_ne.mpr c41
              have c41b1 : (t671 != 4) = true := bne_iff_ne.mpr c41
              have H' := Aside0.mk H
              clear H
              go_wp2
              go_meet
              case rel => exact ⟨_, (true), (by first | rfl | (simp; done) | (simp [*]; done)), H', ⟨by have := HJ8.out; have := HJ21.out; first | omega | exact Nat.le_refl _⟩, ⟨by (with_reducible repeat (first | apply Kd.R_alloc | apply Kd.R_drewN | apply Kd.R_drew)); exact Kd.R_mono HO663.out (fun _ hk => hk.1.2)⟩, ⟨by (with_reducible repeat (first | apply Kd.R_alloc | apply Kd.R_drewN | apply Kd.R_drew)); exact Kd.R_mono HO667.out (fun _ hk => hk.1.2)⟩, ⟨by repeat (first | (with_reducible first | exact HB.out | apply below_alloc | apply pw_below_drewN | apply below_drew1) | exact HB.out)⟩⟩
            ·rw [if_neg c40] at H
             have c40b0 : (t668 == (wrap64 (Int.tmod a2 (IntKind.u64.wrap (t658))))) = false := beq_eq_false_iff_ne.mpr c40
             have c40b1 : (t668 != (wrap64 (Int.tmod a2 (IntKind.u64.wrap (t658))))) = true := bne_iff_ne.mpr c40
             have H' := Aside0.mk H
             clear H
             go_wp2
             go_meet
             case rel => exact ⟨_, (true), (by first | rfl | (simp; done) | (simp [*]; done)), H', ⟨by have := HJ8.out; have := HJ21.out; first | omega | exact Nat.le_refl _⟩, ⟨by (with_reducible repeat (first | apply Kd.R_alloc | apply Kd.R_drewN | apply Kd.R_drew)); exact Kd.R_mono HO663.out (fun _ hk => hk.1.2)⟩, ⟨by (with_reducible repeat (first | apply Kd.R_alloc | apply Kd.R_drewN | apply Kd.R_drew)); exact Kd.R_mono HO667.out (fun _ hk => hk.1.2)⟩, ⟨by repeat (first | (with_reducible first | exact HB.out | apply below_alloc | apply pw_below_drewN | apply below_drew1) | exact HB.out)⟩⟩
           ·rw [if_neg c39] at H
            have c39b0 : (t669 == 0) = false := beq_eq_false_iff_ne.mpr c39
            have c39b1 : (t669 != 0) = true := bne_iff_ne.mpr c39
            have H' := Aside0.mk H
            clear H
            go_wp2
            go_meet
            case rel => exact ⟨_, (true), (by first | rfl | (simp; done) | (simp [*]; done)), H', ⟨by have := HJ8.out; have := HJ21.out; first | omega | exact Nat.le_refl _⟩, ⟨by (with_reducible repeat (first | apply Kd.R_alloc | apply Kd.R_drewN | apply Kd.R_drew)); exact Kd.R_mono HO663.out (fun _ hk => hk.1.2)⟩, ⟨by (with_reducible repeat (first | apply Kd.R_alloc | apply Kd.R_drewN | apply Kd.R_drew)); exact Kd.R_mono HO667.out (fun _ hk => hk.1.2)⟩, ⟨by repeat (first | (with_reducible first | exact HB.out | apply below_alloc | apply pw_below_drewN | apply below_drew1) | exact HB.out)⟩⟩
          ·rw [if_neg c38] at H
           have c38b0 : (t665 == 0) = false := beq_eq_false_iff_ne.mpr c38
           have c38b1 : (t665 != 0) = true := bne_iff_ne.mpr c38
           have H' := Aside0.mk H
           clear H
           go_wp2
           go_meet
           case rel => exact ⟨_, (true), (by first | rfl | (simp; done) | (simp [*]; done)), H', ⟨by have := HJ8.out; have := HJ21.out; first | omega | exact Nat.le_refl _⟩, ⟨by (with_reducible repeat (first | apply Kd.R_alloc | apply Kd.R_drewN | apply Kd.R_drew)); exact Kd.R_mono HO663.out (fun _ hk => hk.1.2)⟩, ⟨by (with_reducible repeat (first | apply Kd.R_alloc | apply Kd.R_drewN | apply Kd.R_drew)); exact Kd.R_mono HO667.out (fun _ hk => hk.1.2)⟩, ⟨by repeat (first | (with_reducible first | exact HB.out | apply below_alloc | apply pw_below_drewN | apply below_drew1) | exact HB.out)⟩⟩
         ·rw [if_neg c37] at H
          have c37b0 : (t661 == 0) = false := beq_eq_false_iff_ne.mpr c37
          have c37b1 : (t661 != 0) = true := bne_iff_ne.mpr c37
          (first | rw [c37b0] | (simp only [i64_w, i32_w]; rw [c37b0]) | skip)
          have H' := Aside0.mk H
          clear H
          go_wp2
          go_meet
          case rel => exact ⟨_, (true), (by first | rfl | (simp; done) | (simp [*]; done)), H', ⟨by have := HJ8.out; have := HJ21.out; first | omega | exact Nat.le_refl _⟩, ⟨by (with_reducible repeat (first | apply Kd.R_alloc | apply Kd.R_drewN | apply Kd.R_drew)); exact Kd.R_mono HO663.out (fun _ hk => hk.1.2)⟩, ⟨by (with_reducible repeat (first | apply Kd.R_alloc | apply Kd.R_drewN | apply Kd.R_drew)); exact Kd.R_mono HO667.out (fun _ hk => hk.1.2)⟩, ⟨by repeat (first | (with_reducible first | exact HB.out | apply below_alloc | apply pw_below_drewN | apply below_drew1) | exact HB.out)⟩⟩
        case rest =>
         clear HC30
         try clear c1
         try clear c2
         try clear p2
         try clear c3
         try clear c4
         try clear c5
         try clear c5b0
         try clear c5b1
         try clear p6
         try clear c11
         try clear c11b0
         try clear c11b1
         try clear c13
         try clear c13b0
         try clear c13b1
         try clear c15
         try clear c17
         try clear c18
         try clear c23
         try clear c23b0
         try clear c23b1
         try clear c24
         try clear c25
         try clear c25b0
         try clear c25b1
         try clear c37
         try clear c37b0
         try clear c37b1
         try clear c38
         try clear c38b0
         try clear c38b1
         try clear c39
         try clear c39b0
         try clear c39b1
         try clear c40
         try clear c40b0
         try clear c40b1
         try clear c41
         try clear c41b0
         try clear c41b1
         try clear c42
         try clear c42b0
         try clear c42b1
         try clear p2
         try clear p6
         obtain ⟨kq, x130_29, rfl, HA, HJ29, HO_18, HO_19, HB⟩ := hcut
         cases kq with
         | zero => exact absurd HA.out (by simp [pomadelaw03_ChairsRanked.j2])
         | succ kj29 =>
          have H := HA.out
          clear HA
          simp only [pomadelaw03_ChairsRanked.j2] at H
          by_cases c44 : x130_29 = true
          ·subst c44
           have H1 : (some false) = some r := by rw [if_pos rfl] at H; exact H
           clear H
           have H := H1
           clear H1
           obtain rfl := Option.some.inj H
           go_wp2
           go_ret
           exact ⟨by first | rfl | (simp [errW_none, errW_some] <;> rfl) | (simp [*, errW_none, errW_some] <;> rfl), by repeat (first | (with_reducible first | exact HB.out | apply below_alloc | apply pw_below_drewN | apply below_drew1) | exact HB.out)⟩
          ·replace c44 := Bool.eq_false_iff.mpr c44
           subst c44
           have H1 : (pomadelaw03_ChairsRanked.l0 kj29 (wrap64 (1 + (wrap64 (Int.tmod a1 16)))) (wrap64 (Int.tmod a2 (IntKind.u64.wrap (t658)))) (wrap64 (Int.tmod a3 (IntKind.u64.wrap (t658)))) t660 t664 0) = some r := by rw [if_neg (show ¬ (false = true) by decide)] at H; exact H
           clear H
           have H := H1
           clear H1
           have H' := Aside0.mk H
           clear H
           go_wp2
           go_loopg [24] kj29 (fun kq v24 w' => ∃ (x24_4 : Int), v24 = .int .i64 x24_4 ∧ Aside0 (pomadelaw03_ChairsRanked.l0 kq (wrap64 (1 + (wrap64 (Int.tmod a1 16)))) (wrap64 (Int.tmod a2 (IntKind.u64.wrap (t658)))) (wrap64 (Int.tmod a3 (IntKind.u64.wrap (t658)))) t660 t664 x24_4 = some r) ∧ Aside0 (kq ≤ kj29) ∧ Aside0 (Kd.R (Kd.int .i64) 3 w' w.heap.size (fun k_ => some k_ ≠ (v666 : Value).ownBlock) (.slice Ao34 t660.length co34) t660) ∧ Aside0 (Kd.R (Kd.int .i64) 3 w' w.heap.size (fun k_ => some k_ ≠ ((.slice Ao34 t660.length co34) : Value).ownBlock) v666 t664) ∧ Aside0 (Below w.heap.size w w'))
           case atStart => exact ⟨(0), (by first | rfl | (simp; done) | (simp [*]; done)), H', ⟨Nat.le_refl _⟩, ⟨by (with_reducible repeat (first | apply Kd.R_alloc | apply Kd.R_drewN | apply Kd.R_drew)); exact HO_18.out⟩, ⟨by (with_reducible repeat (first | apply Kd.R_alloc | apply Kd.R_drewN | apply Kd.R_drew)); exact HO_19.out⟩, ⟨by repeat (first | (with_reducible first | exact HB.out | apply below_alloc | apply pw_below_drewN | apply below_drew1) | exact HB.out)⟩⟩
           case round =>
            clear H'
            try clear c1
            try clear c2
            try clear p2
            try clear c3
            try clear c4
            try clear c5
            try clear c5b0
            try clear c5b1
            try clear p6
            try clear c11
            try clear c11b0
            try clear c11b1
            try clear c13
            try clear c13b0
            try clear c13b1
            try clear c15
            try clear c17
            try clear c18
            try clear c23
            try clear c23b0
            try clear c23b1
            try clear c24
            try clear c25
            try clear c25b0
            try clear c25b1
            try clear c37
            try clear c37b0
            try clear c37b1
            try clear c38
            try clear c38b0
            try clear c38b1
            try clear c39
            try clear c39b0
            try clear c39b1
            try clear c40
            try clear c40b0
            try clear c40b1
            try clear c41
            try clear c41b0
            try clear c41b1
            try clear c42
            try clear c42b0
            try clear c42b1
            try clear c44
            try clear p2
            try clear p6
            obtain ⟨x24_4, rfl, HA, HK4, HO_18, HO_19, HB⟩ := hrel
            cases gk with
            | zero => exact absurd HA.out (by simp [pomadelaw03_ChairsRanked.l0])
            | succ k4 =>
             have H := HA.out
             clear HA
             simp only [pomadelaw03_ChairsRanked.l0] at H
             by_cases c45 : x24_4 < (wrap64 (1 + (wrap64 (Int.tmod a1 16))))
             ·rw [if_pos c45] at H
              have c45b0 : decide (x24_4 < (wrap64 (1 + (wrap64 (Int.tmod a1 16))))) = true := decide_eq_true c45
              clear c45
              by_cases c46 : 0 ≤ x24_4
              ·rw [if_pos c46] at H
               have c46b0 : decide (0 ≤ x24_4) = true := decide_eq_true c46
               clear c46
               by_cases c47 : x24_4 < (t660.length : Int)
               ·rw [if_pos c47] at H
                have c47b0 : decide (x24_4 < (t660.length : Int)) = true := decide_eq_true c47
                clear c47
                by_cases c48 : x24_4 < (t664.length : Int)
                ·rw [if_pos c48] at H
                 have c48b0 : decide (x24_4 < (t664.length : Int)) = true := decide_eq_true c48
                 clear c48
                 by_cases c49 : (rd t660 x24_4) = (rd t664 x24_4)
                 ·rw [if_pos c49] at H
                  have c49b0 : ((rd t660 x24_4) == (rd t664 x24_4)) = true := beq_iff_eq.mpr c49
                  have c49b1 : ((rd t660 x24_4) != (rd t664 x24_4)) = false := bne_eq_false_iff_eq.mpr c49
                  clear c49
                  have H' := Aside0.mk H
                  clear H
                  try go_wp2
                  have n0_ := Aside0.mk (Kd.R_drew HO_18.out)
                  have n1_ := Aside0.mk (Kd.R_drew HO_19.out)
                  have n2_ := Aside0.mk (below_drew1 HB.out)
                  clear HO_18
                  clear HO_19
                  clear HB
                  have HO_18 := n0_
                  have HO_19 := n1_
                  have HB := n2_
                  clear n0_ n1_ n2_
                  have p674 : 0 ≤ (x24_4 : Int) := of_decide_eq_true (by first | (with_reducible assumption) | assumption)
                  have q674 : x24_4 < (t660.length : Int) := of_decide_eq_true (by first | (with_reducible assumption) | assumption)
                  obtain ⟨ad674, e674, hx674_0⟩ := Kd.at_int (Kd.R_reads' HO_18.out).2.2 x24_4 p674 q674
                  cases e674
                  replace p674 := eq_true p674
                  replace q674 := eq_true q674
                  obtain ⟨Ao51, co51, eo51⟩ := Kd.R_slice HO_19.out
                  (first | subst eo51 | (injection eo51 with f1_ f2_ f3_; have f4_ := f1_.symm; have f5_ := f3_.symm; clear f1_ f2_ f3_; subst f4_; subst f5_))
                  have p675 : 0 ≤ (x24_4 : Int) := of_decide_eq_true (by first | (with_reducible assumption) | assumption)
                  have q675 : x24_4 < (t664.length : Int) := of_decide_eq_true (by first | (with_reducible assumption) | assumption)
                  obtain ⟨ad675, e675, hx675_0⟩ := Kd.at_int (Kd.R_reads' HO_19.out).2.2 x24_4 p675 q675
                  cases e675
                  replace p675 := eq_true p675
                  replace q675 := eq_true q675
                  refine start_ (n := 9) (S := fun w' => w'.cell? (ad674.add (x24_4).toNat) = some (.int .i64 (rd t660 x24_4)) ∧ w'.cell? (ad675.add (x24_4).toNat) = some (.int .i64 (rd t664 x24_4))) (ds := []) #[false, false, false, false, false, false, false, false, false] (by kernel_rfl) rfl rfl ⟨hx674_0, hx675_0⟩ (fun hHeld => ?_); refine with_tabW pomadelaw03_ChairsRanked.tab22 pomadelaw03_ChairsRanked.bits22 (fun HT_ HW_ => ?_)
                  generalize wr.drew = w50 at HO_18 HO_19 HB hx674_0 hx675_0 hHeld ⊢
                  refine pure_ (i := 0) (N := some 136) (v := ?_) (a' := ?_) #[true, false, false, false, false, false, false, false, false] rfl rfl (any_of HT_.out (by kernel_rfl)) (fun _ _ _ h => h) (Or.inl ⟨by rfl, ?_⟩) ?_ ?_
                  rotate_left
                  ·intro w'
                   go_simp
                   with_reducible rfl
                  rotate_left
                  ·simp only [Act.put, List.setIfInBounds_toArray, List.set_cons_zero, List.set_cons_succ, i64_w, i32_w]
                   rfl
                  refine pure_ (i := 1) (N := some 137) (v := ?_) (a' := ?_) #[true, true, false, false, false, false, false, false, false] rfl rfl (any_of HT_.out (by kernel_rfl)) (fun _ _ _ h => h) (Or.inl ⟨by rfl, ?_⟩) ?_ ?_
                  rotate_left
                  ·intro w'
                   go_simp
                   with_reducible rfl
                  rotate_left
                  ·simp only [Act.put, List.setIfInBounds_toArray, List.set_cons_zero, List.set_cons_succ, i64_w, i32_w]
                   rfl
                  refine pure_ (i := 2) (N := some 138) (v := ?_) (a' := ?_) #[true, true, true, false, false, false, false, false, false] rfl rfl (any_of HT_.out (by kernel_rfl)) (fun _ _ _ h => h) (Or.inl ⟨by rfl, ?_⟩) ?_ ?_
                  rotate_left
                  ·intro w'
                   go_simp
                   with_reducible rfl
                  rotate_left
                  ·simp only [Act.put, List.setIfInBounds_toArray, List.set_cons_zero, List.set_cons_succ, i64_w, i32_w]
                   rfl
                  refine pure_ (i := 4) (N := some 140) (v := ?_) (a' := ?_) #[true, true, true, false, true, false, false, false, false] rfl rfl (any_of HT_.out (by kernel_rfl)) (fun _ _ _ h => h) (Or.inl ⟨by rfl, ?_⟩) ?_ ?_
                  rotate_left
                  ·intro w'
                   go_simp
                   with_reducible rfl
                  rotate_left
                  ·simp only [Act.put, List.setIfInBounds_toArray, List.set_cons_zero, List.set_cons_succ, i64_w, i32_w]
                   rfl
                  refine pure_ (i := 5) (N := some 141) (v := ?_) (a' := ?_) #[true, true, true, false, true, true, false, false, false] rfl rfl (any_of HT_.out (by kernel_rfl)) (fun _ _ _ h => h) (Or.inl ⟨by rfl, ?_⟩) ?_ ?_
                  rotate_left
                  ·intro w'
                   go_simp
                   with_reducible rfl
                  rotate_left
                  ·simp only [Act.put, List.setIfInBounds_toArray, List.set_cons_zero, List.set_cons_succ, i64_w, i32_w]
                   rfl
                  refine pure_ (i := 6) (N := some 142) (v := ?_) (a' := ?_) #[true, true, true, false, true, true, true, false, false] rfl rfl (any_of HT_.out (by kernel_rfl)) (fun _ _ _ h => h) (Or.inl ⟨by rfl, ?_⟩) ?_ ?_
                  rotate_left
                  ·intro w'
                   go_simp
                   with_reducible rfl
                  rotate_left
                  ·simp only [Act.put, List.setIfInBounds_toArray, List.set_cons_zero, List.set_cons_succ, i64_w, i32_w]
                   rfl
                  refine take_ (i := 3) (N := some 139) (v := ?_) (a' := ?_) #[true, true, true, true, true, true, true, false, false] rfl rfl (take_ofW HT_.out HW_.out (by kernel_rfl)) (fun _ _ _ h => h) (Or.inl ⟨by rfl, ?_⟩) hHeld ?_ ?_
                  rotate_left
                  ·rintro w' ⟨s0, s1⟩
                   go_simp
                   with_reducible rfl
                  rotate_left
                  ·simp only [Act.put, List.setIfInBounds_toArray, List.set_cons_zero, List.set_cons_succ, i64_w, i32_w]
                   rfl
                  refine take_ (i := 7) (N := some 143) (v := ?_) (a' := ?_) #[true, true, true, true, true, true, true, true, false] rfl rfl (take_ofW HT_.out HW_.out (by kernel_rfl)) (fun _ _ _ h => h) (Or.inl ⟨by rfl, ?_⟩) hHeld ?_ ?_
                  rotate_left
                  ·rintro w' ⟨s0, s1⟩
                   go_simp
                   with_reducible rfl
                  rotate_left
                  ·simp only [Act.put, List.setIfInBounds_toArray, List.set_cons_zero, List.set_cons_succ, i64_w, i32_w]
                   rfl
                  refine pure_ (i := 8) (N := some 144) (v := ?_) (a' := ?_) #[true, true, true, true, true, true, true, true, true] rfl rfl (any_of HT_.out (by kernel_rfl)) (fun _ _ _ h => h) (Or.inl ⟨by rfl, ?_⟩) ?_ ?_
                  rotate_left
                  ·intro w'
                   go_simp
                   with_reducible rfl
                  rotate_left
                  ·simp only [Act.put, List.setIfInBounds_toArray, List.set_cons_zero, List.set_cons_succ, i64_w, i32_w]
                   rfl
                  refine done_ (done_of HT_.out (by kernel_rfl)) ?_
                  try go_wp2
                  go_roundg k4
                  case measure => have := HJ8.out; have := HJ21.out; have := HJ29.out; have := HK4.out; omega
                  case rel => exact ⟨(wrap64 (x24_4 + 1)), (by first | rfl | (simp; done) | (simp [*]; done)), H', ⟨by have := HJ8.out; have := HJ21.out; have := HJ29.out; have := HK4.out; omega⟩, ⟨by (with_reducible repeat (first | apply Kd.R_alloc | apply Kd.R_drewN | apply Kd.R_drew)); exact HO_18.out⟩, ⟨by (with_reducible repeat (first | apply Kd.R_alloc | apply Kd.R_drewN | apply Kd.R_drew)); exact HO_19.out⟩, ⟨by repeat (first | (with_reducible first | exact HB.out | apply below_alloc | apply pw_below_drewN | apply below_drew1) | exact HB.out)⟩⟩
                 ·rw [if_neg c49] at H
                  have c49b0 : ((rd t660 x24_4) == (rd t664 x24_4)) = false := beq_eq_false_iff_ne.mpr c49
                  have c49b1 : ((rd t660 x24_4) != (rd t664 x24_4)) = true := bne_iff_ne.mpr c49
                  by_cases c52 : ((decide ((rd t660 x24_4) < (rd t664 x24_4))) == (decide ((wrap64 (Int.tmod a2 (IntKind.u64.wrap (t658)))) < (wrap64 (Int.tmod a3 (IntKind.u64.wrap (t658))))))) = true
                  ·rw [if_pos c52] at H
                   have c52b0 : ((decide ((rd t660 x24_4) < (rd t664 x24_4))) == (decide ((wrap64 (Int.tmod a2 (IntKind.u64.wrap (t658)))) < (wrap64 (Int.tmod a3 (IntKind.u64.wrap (t658))))))) = true := c52
                   (try (have c52b1 : decide ((decide ((rd t660 x24_4) < (rd t664 x24_4))) = (decide ((wrap64 (Int.tmod a2 (IntKind.u64.wrap (t658)))) < (wrap64 (Int.tmod a3 (IntKind.u64.wrap (t658))))))) = true := by simpa using c52))
                   (try (have c52b2 : ((decide ((rd t660 x24_4) < (rd t664 x24_4))) == (decide ((wrap64 (Int.tmod a2 (IntKind.u64.wrap (t658)))) < (wrap64 (Int.tmod a3 (IntKind.u64.wrap (t658))))))) = true := by simpa using c52))
                   clear c52
                   replace H := Option.bind_eq_some_iff.mp H
                   obtain ⟨t678, A530, H⟩ := H
                   replace H : (some t678) = some r := H
                   have A53 := Aside0.mk A530
                   clear A530
                   obtain rfl := Option.some.inj H
                   try go_wp2
                   have n0_ := Aside0.mk (Kd.R_drew HO_18.out)
                   have n1_ := Aside0.mk (Kd.R_drew HO_19.out)
                   have n2_ := Aside0.mk (below_drew1 HB.out)
                   clear HO_18
                   clear HO_19
                   clear HB
                   have HO_18 := n0_
                   have HO_19 := n1_
                   have HB := n2_
                   clear n0_ n1_ n2_
                   have p674 : 0 ≤ (x24_4 : Int) := of_decide_eq_true (by first | (with_reducible assumption) | assumption)
                   have q674 : x24_4 < (t660.length : Int) := of_decide_eq_true (by first | (with_reducible assumption) | assumption)
                   obtain ⟨ad674, e674, hx674_0⟩ := Kd.at_int (Kd.R_reads' HO_18.out).2.2 x24_4 p674 q674
                   cases e674
                   replace p674 := eq_true p674
                   replace q674 := eq_true q674
                   obtain ⟨Ao55, co55, eo55⟩ := Kd.R_slice HO_19.out
                   (first | subst eo55 | (injection eo55 with f1_ f2_ f3_; have f4_ := f1_.symm; have f5_ := f3_.symm; clear f1_ f2_ f3_; subst f4_; subst f5_))
                   have p675 : 0 ≤ (x24_4 : Int) := of_decide_eq_true (by first | (with_reducible assumption) | assumption)
                   have q675 : x24_4 < (t664.length : Int) := of_decide_eq_true (by first | (with_reducible assumption) | assumption)
                   obtain ⟨ad675, e675, hx675_0⟩ := Kd.at_int (Kd.R_reads' HO_19.out).2.2 x24_4 p675 q675
                   cases e675
                   replace p675 := eq_true p675
                   replace q675 := eq_true q675
                   refine start_ (n := 9) (S := fun w' => w'.cell? (ad674.add (x24_4).toNat) = some (.int .i64 (rd t660 x24_4)) ∧ w'.cell? (ad675.add (x24_4).toNat) = some (.int .i64 (rd t664 x24_4))) (ds := []) #[false, false, false, false, false, false, false, false, false] (by kernel_rfl) rfl rfl ⟨hx674_0, hx675_0⟩ (fun hHeld => ?_); refine with_tabW pomadelaw03_ChairsRanked.tab22 pomadelaw03_ChairsRanked.bits22 (fun HT_ HW_ => ?_)
                   generalize wr.drew = w54 at HO_18 HO_19 HB hx674_0 hx675_0 hHeld ⊢
                   refine pure_ (i := 0) (N := some 136) (v := ?_) (a' := ?_) #[true, false, false, false, false, false, false, false, false] rfl rfl (any_of HT_.out (by kernel_rfl)) (fun _ _ _ h => h) (Or.inl ⟨by rfl, ?_⟩) ?_ ?_
                   rotate_left
                   ·intro w'
                    go_simp
                    with_reducible rfl
                   rotate_left
                   ·simp only [Act.put, List.setIfInBounds_toArray, List.set_cons_zero, List.set_cons_succ, i64_w, i32_w]
                    rfl
                   refine pure_ (i := 1) (N := some 137) (v := ?_) (a' := ?_) #[true, true, false, false, false, false, false, false, false] rfl rfl (any_of HT_.out (by kernel_rfl)) (fun _ _ _ h => h) (Or.inl ⟨by rfl, ?_⟩) ?_ ?_
                   rotate_left
                   ·intro w'
                    go_simp
                    with_reducible rfl
                   rotate_left
                   ·simp only [Act.put, List.setIfInBounds_toArray, List.set_cons_zero, List.set_cons_succ, i64_w, i32_w]
                    rfl
                   refine pure_ (i := 2) (N := some 138) (v := ?_) (a' := ?_) #[true, true, true, false, false, false, false, false, false] rfl rfl (any_of HT_.out (by kernel_rfl)) (fun _ _ _ h => h) (Or.inl ⟨by rfl, ?_⟩) ?_ ?_
                   rotate_left
                   ·intro w'
                    go_simp
                    with_reducible rfl
                   rotate_left
                   ·simp only [Act.put, List.setIfInBounds_toArray, List.set_cons_zero, List.set_cons_succ, i64_w, i32_w]
                    rfl
                   refine pure_ (i := 4) (N := some 140) (v := ?_) (a' := ?_) #[true, true, true, false, true, false, false, false, false] rfl rfl (any_of HT_.out (by kernel_rfl)) (fun _ _ _ h => h) (Or.inl ⟨by rfl, ?_⟩) ?_ ?_
                   rotate_left
                   ·intro w'
                    go_simp
                    with_reducible rfl
                   rotate_left
                   ·simp only [Act.put, List.setIfInBounds_toArray, List.set_cons_zero, List.set_cons_succ, i64_w, i32_w]
                    rfl
                   refine pure_ (i := 5) (N := some 141) (v := ?_) (a' := ?_) #[true, true, true, false, true, true, false, false, false] rfl rfl (any_of HT_.out (by kernel_rfl)) (fun _ _ _ h => h) (Or.inl ⟨by rfl, ?_⟩) ?_ ?_
                   rotate_left
                   ·intro w'
                    go_simp
                    with_reducible rfl
                   rotate_left
                   ·simp only [Act.put, List.setIfInBounds_toArray, List.set_cons_zero, List.set_cons_succ, i64_w, i32_w]
                    rfl
                   refine pure_ (i := 6) (N := some 142) (v := ?_) (a' := ?_) #[true, true, true, false, true, true, true, false, false] rfl rfl (any_of HT_.out (by kernel_rfl)) (fun _ _ _ h => h) (Or.inl ⟨by rfl, ?_⟩) ?_ ?_
                   rotate_left
                   ·intro w'
                    go_simp
                    with_reducible rfl
                   rotate_left
                   ·simp only [Act.put, List.setIfInBounds_toArray, List.set_cons_zero, List.set_cons_succ, i64_w, i32_w]
                    rfl
                   refine take_ (i := 3) (N := some 139) (v := ?_) (a' := ?_) #[true, true, true, true, true, true, true, false, false] rfl rfl (take_ofW HT_.out HW_.out (by kernel_rfl)) (fun _ _ _ h => h) (Or.inl ⟨by rfl, ?_⟩) hHeld ?_ ?_
                   rotate_left
                   ·rintro w' ⟨s0, s1⟩
                    go_simp
                    with_reducible rfl
                   rotate_left
                   ·simp only [Act.put, List.setIfInBounds_toArray, List.set_cons_zero, List.set_cons_succ, i64_w, i32_w]
                    rfl
                   refine take_ (i := 7) (N := some 143) (v := ?_) (a' := ?_) #[true, true, true, true, true, true, true, true, false] rfl rfl (take_ofW HT_.out HW_.out (by kernel_rfl)) (fun _ _ _ h => h) (Or.inl ⟨by rfl, ?_⟩) hHeld ?_ ?_
                   rotate_left
                   ·rintro w' ⟨s0, s1⟩
                    go_simp
                    with_reducible rfl
                   rotate_left
                   ·simp only [Act.put, List.setIfInBounds_toArray, List.set_cons_zero, List.set_cons_succ, i64_w, i32_w]
                    rfl
                   refine pure_ (i := 8) (N := some 144) (v := ?_) (a' := ?_) #[true, true, true, true, true, true, true, true, true] rfl rfl (any_of HT_.out (by kernel_rfl)) (fun _ _ _ h => h) (Or.inl ⟨by rfl, ?_⟩) ?_ ?_
                   rotate_left
                   ·intro w'
                    go_simp
                    with_reducible rfl
                   rotate_left
                   ·simp only [Act.put, List.setIfInBounds_toArray, List.set_cons_zero, List.set_cons_succ, i64_w, i32_w]
                    rfl
                   refine done_ (done_of HT_.out (by kernel_rfl)) ?_
                   try go_wp2
                   have n0_ := Aside0.mk (Kd.R_drew HO_18.out)
                   have n1_ := Aside0.mk (Kd.R_drew HO_19.out)
                   have n2_ := Aside0.mk (below_drew1 HB.out)
                   clear HO_18
                   clear HO_19
                   clear HB
                   have HO_18 := n0_
                   have HO_19 := n1_
                   have HB := n2_
                   clear n0_ n1_ n2_
                   have p676 : 0 ≤ (x24_4 : Int) := of_decide_eq_true (by first | (with_reducible assumption) | assumption)
                   have q676 : x24_4 < (t660.length : Int) := of_decide_eq_true (by first | (with_reducible assumption) | assumption)
                   obtain ⟨ad676, e676, hx676_0⟩ := Kd.at_int (Kd.R_reads' HO_18.out).2.2 x24_4 p676 q676
                   obtain rfl : ad674 = ad676 := (by injection e676)
                   replace p676 := eq_true p676
                   replace q676 := eq_true q676
                   have p677 : 0 ≤ (x24_4 : Int) := of_decide_eq_true (by first | (with_reducible assumption) | assumption)
                   have q677 : x24_4 < (t664.length : Int) := of_decide_eq_true (by first | (with_reducible assumption) | assumption)
                   obtain ⟨ad677, e677, hx677_0⟩ := Kd.at_int (Kd.R_reads' HO_19.out).2.2 x24_4 p677 q677
                   obtain rfl : ad675 = ad677 := (by injection e677)
                   replace p677 := eq_true p677
                   replace q677 := eq_true q677
                   refine start_ (n := 17) (S := fun w' => w'.cell? (ad674.add (x24_4).toNat) = some (.int .i64 (rd t660 x24_4)) ∧ w'.cell? (ad675.add (x24_4).toNat) = some (.int .i64 (rd t664 x24_4))) (ds := []) #[false, false, false, false, false, false, false, false, false, false, false, false, false, false, false, false, false] (by kernel_rfl) rfl rfl ⟨hx676_0, hx677_0⟩ (fun hHeld => ?_); refine with_tabW pomadelaw03_ChairsRanked.tab23 pomadelaw03_ChairsRanked.bits23 (fun HT_ HW_ => ?_)
                   generalize w54.drew = w56 at HO_18 HO_19 HB hx676_0 hx677_0 hHeld ⊢
                   refine pure_ (i := 0) (N := some 145) (v := ?_) (a' := ?_) #[true, false, false, false, false, false, false, false, false, false, false, false, false, false, false, false, false] rfl rfl (any_of HT_.out (by kernel_rfl)) (fun _ _ _ h => h) (Or.inl ⟨by rfl, ?_⟩) ?_ ?_
                   rotate_left
                   ·intro w'
                    go_simp
                    with_reducible rfl
                   rotate_left
                   ·simp only [Act.put, List.setIfInBounds_toArray, List.set_cons_zero, List.set_cons_succ, i64_w, i32_w]
                    rfl
                   refine pure_ (i := 1) (N := some 146) (v := ?_) (a' := ?_) #[true, true, false, false, false, false, false, false, false, false, false, false, false, false, false, false, false] rfl rfl (any_of HT_.out (by kernel_rfl)) (fun _ _ _ h => h) (Or.inl ⟨by rfl, ?_⟩) ?_ ?_
                   rotate_left
                   ·intro w'
                    go_simp
                    with_reducible rfl
                   rotate_left
                   ·simp only [Act.put, List.setIfInBounds_toArray, List.set_cons_zero, List.set_cons_succ, i64_w, i32_w]
                    rfl
                   refine pure_ (i := 2) (N := some 147) (v := ?_) (a' := ?_) #[true, true, true, false, false, false, false, false, false, false, false, false, false, false, false, false, false] rfl rfl (any_of HT_.out (by kernel_rfl)) (fun _ _ _ h => h) (Or.inl ⟨by rfl, ?_⟩) ?_ ?_
                   rotate_left
                   ·intro w'
                    go_simp
                    with_reducible rfl
                   rotate_left
                   ·simp only [Act.put, List.setIfInBounds_toArray, List.set_cons_zero, List.set_cons_succ, i64_w, i32_w]
                    rfl
                   refine pure_ (i := 4) (N := some 149) (v := ?_) (a' := ?_) #[true, true, true, false, true, false, false, false, false, false, false, false, false, false, false, false, false] rfl rfl (any_of HT_.out (by kernel_rfl)) (fun _ _ _ h => h) (Or.inl ⟨by rfl, ?_⟩) ?_ ?_
                   rotate_left
                   ·intro w'
                    go_simp
                    with_reducible rfl
                   rotate_left
                   ·simp only [Act.put, List.setIfInBounds_toArray, List.set_cons_zero, List.set_cons_succ, i64_w, i32_w]
                    rfl
                   refine pure_ (i := 5) (N := some 150) (v := ?_) (a' := ?_) #[true, true, true, false, true, true, false, false, false, false, false, false, false, false, false, false, false] rfl rfl (any_of HT_.out (by kernel_rfl)) (fun _ _ _ h => h) (Or.inl ⟨by rfl, ?_⟩) ?_ ?_
                   rotate_left
                   ·intro w'
                    go_simp
                    with_reducible rfl
                   rotate_left
                   ·simp only [Act.put, List.setIfInBounds_toArray, List.set_cons_zero, List.set_cons_succ, i64_w, i32_w]
                    rfl
                   refine pure_ (i := 6) (N := some 151) (v := ?_) (a' := ?_) #[true, true, true, false, true, true, true, false, false, false, false, false, false, false, false, false, false] rfl rfl (any_of HT_.out (by kernel_rfl)) (fun _ _ _ h => h) (Or.inl ⟨by rfl, ?_⟩) ?_ ?_
                   rotate_left
                   ·intro w'
                    go_simp
                    with_reducible rfl
                   rotate_left
                   ·simp only [Act.put, List.setIfInBounds_toArray, List.set_cons_zero, List.set_cons_succ, i64_w, i32_w]
                    rfl
                   refine pure_ (i := 9) (N := some 154) (v := ?_) (a' := ?_) #[true, true, true, false, true, true, true, false, false, true, false, false, false, false, false, false, false] rfl rfl (any_of HT_.out (by kernel_rfl)) (fun _ _ _ h => h) (Or.inl ⟨by rfl, ?_⟩) ?_ ?_
                   rotate_left
                   ·intro w'
                    go_simp
                    with_reducible rfl
                   rotate_left
                   ·simp only [Act.put, List.setIfInBounds_toArray, List.set_cons_zero, List.set_cons_succ, i64_w, i32_w]
                    rfl
                   refine pure_ (i := 10) (N := some 155) (v := ?_) (a' := ?_) #[true, true, true, false, true, true, true, false, false, true, true, false, false, false, false, false, false] rfl rfl (any_of HT_.out (by kernel_rfl)) (fun _ _ _ h => h) (Or.inl ⟨by rfl, ?_⟩) ?_ ?_
                   rotate_left
                   ·intro w'
                    go_simp
                    with_reducible rfl
                   rotate_left
                   ·simp only [Act.put, List.setIfInBounds_toArray, List.set_cons_zero, List.set_cons_succ, i64_w, i32_w]
                    rfl
                   refine pure_ (i := 11) (N := some 156) (v := ?_) (a' := ?_) #[true, true, true, false, true, true, true, false, false, true, true, true, false, false, false, false, false] rfl rfl (any_of HT_.out (by kernel_rfl)) (fun _ _ _ h => h) (Or.inl ⟨by rfl, ?_⟩) ?_ ?_
                   rotate_left
                   ·intro w'
                    go_simp
                    with_reducible rfl
                   rotate_left
                   ·simp only [Act.put, List.setIfInBounds_toArray, List.set_cons_zero, List.set_cons_succ, i64_w, i32_w]
                    rfl
                   refine take_ (i := 3) (N := some 148) (v := ?_) (a' := ?_) #[true, true, true, true, true, true, true, false, false, true, true, true, false, false, false, false, false] rfl rfl (take_ofW HT_.out HW_.out (by kernel_rfl)) (fun _ _ _ h => h) (Or.inl ⟨by rfl, ?_⟩) hHeld ?_ ?_
                   rotate_left
                   ·rintro w' ⟨s0, s1⟩
                    go_simp
                    with_reducible rfl
                   rotate_left
                   ·simp only [Act.put, List.setIfInBounds_toArray, List.set_cons_zero, List.set_cons_succ, i64_w, i32_w]
                    rfl
                   refine take_ (i := 7) (N := some 152) (v := ?_) (a' := ?_) #[true, true, true, true, true, true, true, true, false, true, true, true, false, false, false, false, false] rfl rfl (take_ofW HT_.out HW_.out (by kernel_rfl)) (fun _ _ _ h => h) (Or.inl ⟨by rfl, ?_⟩) hHeld ?_ ?_
                   rotate_left
                   ·rintro w' ⟨s0, s1⟩
                    go_simp
                    with_reducible rfl
                   rotate_left
                   ·simp only [Act.put, List.setIfInBounds_toArray, List.set_cons_zero, List.set_cons_succ, i64_w, i32_w]
                    rfl
                   refine pure_ (i := 8) (N := some 153) (v := ?_) (a' := ?_) #[true, true, true, true, true, true, true, true, true, true, true, true, false, false, false, false, false] rfl rfl (any_of HT_.out (by kernel_rfl)) (fun _ _ _ h => h) (Or.inl ⟨by rfl, ?_⟩) ?_ ?_
                   rotate_left
                   ·intro w'
                    go_simp
                    with_reducible rfl
                   rotate_left
                   ·simp only [Act.put, List.setIfInBounds_toArray, List.set_cons_zero, List.set_cons_succ, i64_w, i32_w]
                    rfl
                   refine pure_ (i := 12) (N := some 157) (v := ?_) (a' := ?_) #[true, true, true, true, true, true, true, true, true, true, true, true, true, false, false, false, false] rfl rfl (any_of HT_.out (by kernel_rfl)) (fun _ _ _ h => h) (Or.inl ⟨by rfl, ?_⟩) ?_ ?_
                   rotate_left
                   ·intro w'
                    go_simp
                    with_reducible rfl
                   rotate_left
                   ·simp only [Act.put, List.setIfInBounds_toArray, List.set_cons_zero, List.set_cons_succ, i64_w, i32_w]
                    rfl
                   refine pure_ (i := 13) (N := some 158) (v := ?_) (a' := ?_) #[true, true, true, true, true, true, true, true, true, true, true, true, true, true, false, false, false] rfl rfl (any_of HT_.out (by kernel_rfl)) (fun _ _ _ h => h) (Or.inl ⟨by rfl, ?_⟩) ?_ ?_
                   rotate_left
                   ·intro w'
                    go_simp
                    with_reducible rfl
                   rotate_left
                   ·simp only [Act.put, List.setIfInBounds_toArray, List.set_cons_zero, List.set_cons_succ, i64_w, i32_w]
                    rfl
                   refine one_ (i := 14) (N := some 159) #[true, true, true, true, true, true, true, true, true, true, true, true, true, true, true, false, false] rfl rfl (one_of HT_.out (by kernel_rfl)) (by decide) (fun K hK => ?_)
                   refine goes_ Try.func17 (by kernel_rfl) rfl #[] (by rfl) rfl rfl (by (try simp only [List.map_toArray, List.map_cons, List.map_nil]); first | done | rfl | (simp only [List.length_drop, List.length_take]; rfl)) ?_
                   with_reducible refine (pomadelaw03_alive.calls  t678 _ A53.out).mono ?_
                   rintro e w57 ⟨rfl, hb⟩
                   have HS0_ := (hb.cell (World.block_lt_of_cell? _ _ (hHeld.1))).trans (hHeld.1)
                   have HS1_ := (hb.cell (World.block_lt_of_cell? _ _ (hHeld.2))).trans (hHeld.2)
                   refine ⟨_, rfl, ?_⟩
                   have n0_ := Aside0.mk (Kd.R_below (by (with_reducible repeat (first | apply Kd.R_alloc | apply Kd.R_drewN | apply Kd.R_drew)); exact HO_18.out) hb)
                   have n1_ := Aside0.mk (Kd.R_below (by (with_reducible repeat (first | apply Kd.R_alloc | apply Kd.R_drewN | apply Kd.R_drew)); exact HO_19.out) hb)
                   have n2_ := Aside0.mk (below_step (by repeat (first | (with_reducible first | exact HB.out | apply below_alloc | apply pw_below_drewN | apply below_drew1) | exact HB.out)) hb)
                   clear HO_18
                   clear HO_19
                   clear HB
                   have HO_18 := n0_
                   have HO_19 := n1_
                   have HB := n2_
                   clear n0_ n1_ n2_
                   (try clear hb)
                   (try clear hb2)
                   (try clear hk)
                   (try clear hi)
                   refine hK.out _ _ ⟨HS0_, HS1_⟩ (fun hHeld => ?_)
                   clear hK K
                   refine norm_ (a' := ?_) ?_ ?_
                   rotate_left
                   ·show Act.put _ (some 159) _ = _
                    simp only [Act.put, List.setIfInBounds_toArray, List.set_cons_zero, List.set_cons_succ, i64_w, i32_w]
                    rfl
                   refine pure_ (i := 15) (N := some 160) (v := ?_) (a' := ?_) #[true, true, true, true, true, true, true, true, true, true, true, true, true, true, true, true, false] rfl rfl (any_of HT_.out (by kernel_rfl)) (fun _ _ _ h => h) (Or.inl ⟨by rfl, ?_⟩) ?_ ?_
                   rotate_left
                   ·intro w'
                    go_simp
                    with_reducible rfl
                   rotate_left
                   ·simp only [Act.put, List.setIfInBounds_toArray, List.set_cons_zero, List.set_cons_succ, i64_w, i32_w]
                    rfl
                   refine pure_ (i := 16) (N := some 8) (v := ?_) (a' := ?_) #[true, true, true, true, true, true, true, true, true, true, true, true, true, true, true, true, true] rfl rfl (any_of HT_.out (by kernel_rfl)) (fun _ _ _ h => h) (Or.inl ⟨by rfl, ?_⟩) ?_ ?_
                   rotate_left
                   ·intro w'
                    go_simp
                    with_reducible rfl
                   rotate_left
                   ·simp only [Act.put, List.setIfInBounds_toArray, List.set_cons_zero, List.set_cons_succ, i64_w, i32_w]
                    rfl
                   refine done_ (done_of HT_.out (by kernel_rfl)) ?_
                   try go_wp2
                   go_ret
                   exact ⟨by first | rfl | (simp [errW_none, errW_some] <;> rfl) | (simp [*, errW_none, errW_some] <;> rfl), by repeat (first | (with_reducible first | exact HB.out | apply below_alloc | apply pw_below_drewN | apply below_drew1) | exact HB.out)⟩
                  ·rw [if_neg c52] at H
                   have c52b0 : ((decide ((rd t660 x24_4) < (rd t664 x24_4))) == (decide ((wrap64 (Int.tmod a2 (IntKind.u64.wrap (t658)))) < (wrap64 (Int.tmod a3 (IntKind.u64.wrap (t658))))))) = false := by simpa using c52
                   (try (have c52b1 : decide ((decide ((rd t660 x24_4) < (rd t664 x24_4))) = (decide ((wrap64 (Int.tmod a2 (IntKind.u64.wrap (t658)))) < (wrap64 (Int.tmod a3 (IntKind.u64.wrap (t658))))))) = false := by simpa using c52))
                   (try (have c52b2 : ((decide ((rd t660 x24_4) < (rd t664 x24_4))) == (decide ((wrap64 (Int.tmod a2 (IntKind.u64.wrap (t658)))) < (wrap64 (Int.tmod a3 (IntKind.u64.wrap (t658))))))) = false := by simpa using c52))
                   (try (have c52b3 : ¬ ((decide ((rd t660 x24_4) < (rd t664 x24_4))) = (decide ((wrap64 (Int.tmod a2 (IntKind.u64.wrap (t658)))) < (wrap64 (Int.tmod a3 (IntKind.u64.wrap (t658))))))) := by simpa using c52))
                   clear c52
                   obtain rfl := Option.some.inj H
                   try go_wp2
                   have n0_ := Aside0.mk (Kd.R_drew HO_18.out)
                   have n1_ := Aside0.mk (Kd.R_drew HO_19.out)
                   have n2_ := Aside0.mk (below_drew1 HB.out)
                   clear HO_18
                   clear HO_19
                   clear HB
                   have HO_18 := n0_
                   have HO_19 := n1_
                   have HB := n2_
                   clear n0_ n1_ n2_
                   have p674 : 0 ≤ (x24_4 : Int) := of_decide_eq_true (by first | (with_reducible assumption) | assumption)
                   have q674 : x24_4 < (t660.length : Int) := of_decide_eq_true (by first | (with_reducible assumption) | assumption)
                   obtain ⟨ad674, e674, hx674_0⟩ := Kd.at_int (Kd.R_reads' HO_18.out).2.2 x24_4 p674 q674
                   cases e674
                   replace p674 := eq_true p674
                   replace q674 := eq_true q674
                   obtain ⟨Ao59, co59, eo59⟩ := Kd.R_slice HO_19.out
                   (first | subst eo59 | (injection eo59 with f1_ f2_ f3_; have f4_ := f1_.symm; have f5_ := f3_.symm; clear f1_ f2_ f3_; subst f4_; subst f5_))
                   have p675 : 0 ≤ (x24_4 : Int) := of_decide_eq_true (by first | (with_reducible assumption) | assumption)
                   have q675 : x24_4 < (t664.length : Int) := of_decide_eq_true (by first | (with_reducible assumption) | assumption)
                   obtain ⟨ad675, e675, hx675_0⟩ := Kd.at_int (Kd.R_reads' HO_19.out).2.2 x24_4 p675 q675
                   cases e675
                   replace p675 := eq_true p675
                   replace q675 := eq_true q675
                   refine start_ (n := 9) (S := fun w' => w'.cell? (ad674.add (x24_4).toNat) = some (.int .i64 (rd t660 x24_4)) ∧ w'.cell? (ad675.add (x24_4).toNat) = some (.int .i64 (rd t664 x24_4))) (ds := []) #[false, false, false, false, false, false, false, false, false] (by kernel_rfl) rfl rfl ⟨hx674_0, hx675_0⟩ (fun hHeld => ?_); refine with_tabW pomadelaw03_ChairsRanked.tab22 pomadelaw03_ChairsRanked.bits22 (fun HT_ HW_ => ?_)
                   generalize wr.drew = w58 at HO_18 HO_19 HB hx674_0 hx675_0 hHeld ⊢
                   refine pure_ (i := 0) (N := some 136) (v := ?_) (a' := ?_) #[true, false, false, false, false, false, false, false, false] rfl rfl (any_of HT_.out (by kernel_rfl)) (fun _ _ _ h => h) (Or.inl ⟨by rfl, ?_⟩) ?_ ?_
                   rotate_left
                   ·intro w'
                    go_simp
                    with_reducible rfl
                   rotate_left
                   ·simp only [Act.put, List.setIfInBounds_toArray, List.set_cons_zero, List.set_cons_succ, i64_w, i32_w]
                    rfl
                   refine pure_ (i := 1) (N := some 137) (v := ?_) (a' := ?_) #[true, true, false, false, false, false, false, false, false] rfl rfl (any_of HT_.out (by kernel_rfl)) (fun _ _ _ h => h) (Or.inl ⟨by rfl, ?_⟩) ?_ ?_
                   rotate_left
                   ·intro w'
                    go_simp
                    with_reducible rfl
                   rotate_left
                   ·simp only [Act.put, List.setIfInBounds_toArray, List.set_cons_zero, List.set_cons_succ, i64_w, i32_w]
                    rfl
                   refine pure_ (i := 2) (N := some 138) (v := ?_) (a' := ?_) #[true, true, true, false, false, false, false, false, false] rfl rfl (any_of HT_.out (by kernel_rfl)) (fun _ _ _ h => h) (Or.inl ⟨by rfl, ?_⟩) ?_ ?_
                   rotate_left
                   ·intro w'
                    go_simp
                    with_reducible rfl
                   rotate_left
                   ·simp only [Act.put, List.setIfInBounds_toArray, List.set_cons_zero, List.set_cons_succ, i64_w, i32_w]
                    rfl
                   refine pure_ (i := 4) (N := some 140) (v := ?_) (a' := ?_) #[true, true, true, false, true, false, false, false, false] rfl rfl (any_of HT_.out (by kernel_rfl)) (fun _ _ _ h => h) (Or.inl ⟨by rfl, ?_⟩) ?_ ?_
                   rotate_left
                   ·intro w'
                    go_simp
                    with_reducible rfl
                   rotate_left
                   ·simp only [Act.put, List.setIfInBounds_toArray, List.set_cons_zero, List.set_cons_succ, i64_w, i32_w]
                    rfl
                   refine pure_ (i := 5) (N := some 141) (v := ?_) (a' := ?_) #[true, true, true, false, true, true, false, false, false] rfl rfl (any_of HT_.out (by kernel_rfl)) (fun _ _ _ h => h) (Or.inl ⟨by rfl, ?_⟩) ?_ ?_
                   rotate_left
                   ·intro w'
                    go_simp
                    with_reducible rfl
                   rotate_left
                   ·simp only [Act.put, List.setIfInBounds_toArray, List.set_cons_zero, List.set_cons_succ, i64_w, i32_w]
                    rfl
                   refine pure_ (i := 6) (N := some 142) (v := ?_) (a' := ?_) #[true, true, true, false, true, true, true, false, false] rfl rfl (any_of HT_.out (by kernel_rfl)) (fun _ _ _ h => h) (Or.inl ⟨by rfl, ?_⟩) ?_ ?_
                   rotate_left
                   ·intro w'
                    go_simp
                    with_reducible rfl
                   rotate_left
                   ·simp only [Act.put, List.setIfInBounds_toArray, List.set_cons_zero, List.set_cons_succ, i64_w, i32_w]
                    rfl
                   refine take_ (i := 3) (N := some 139) (v := ?_) (a' := ?_) #[true, true, true, true, true, true, true, false, false] rfl rfl (take_ofW HT_.out HW_.out (by kernel_rfl)) (fun _ _ _ h => h) (Or.inl ⟨by rfl, ?_⟩) hHeld ?_ ?_
                   rotate_left
                   ·rintro w' ⟨s0, s1⟩
                    go_simp
                    with_reducible rfl
                   rotate_left
                   ·simp only [Act.put, List.setIfInBounds_toArray, List.set_cons_zero, List.set_cons_succ, i64_w, i32_w]
                    rfl
                   refine take_ (i := 7) (N := some 143) (v := ?_) (a' := ?_) #[true, true, true, true, true, true, true, true, false] rfl rfl (take_ofW HT_.out HW_.out (by kernel_rfl)) (fun _ _ _ h => h) (Or.inl ⟨by rfl, ?_⟩) hHeld ?_ ?_
                   rotate_left
                   ·rintro w' ⟨s0, s1⟩
                    go_simp
                    with_reducible rfl
                   rotate_left
                   ·simp only [Act.put, List.setIfInBounds_toArray, List.set_cons_zero, List.set_cons_succ, i64_w, i32_w]
                    rfl
                   refine pure_ (i := 8) (N := some 144) (v := ?_) (a' := ?_) #[true, true, true, true, true, true, true, true, true] rfl rfl (any_of HT_.out (by kernel_rfl)) (fun _ _ _ h => h) (Or.inl ⟨by rfl, ?_⟩) ?_ ?_
                   rotate_left
                   ·intro w'
                    go_simp
                    with_reducible rfl
                   rotate_left
                   ·simp only [Act.put, List.setIfInBounds_toArray, List.set_cons_zero, List.set_cons_succ, i64_w, i32_w]
                    rfl
                   refine done_ (done_of HT_.out (by kernel_rfl)) ?_
                   try go_wp2
                   have n0_ := Aside0.mk (Kd.R_drew HO_18.out)
                   have n1_ := Aside0.mk (Kd.R_drew HO_19.out)
                   have n2_ := Aside0.mk (below_drew1 HB.out)
                   clear HO_18
                   clear HO_19
                   clear HB
                   have HO_18 := n0_
                   have HO_19 := n1_
                   have HB := n2_
                   clear n0_ n1_ n2_
                   have p676 : 0 ≤ (x24_4 : Int) := of_decide_eq_true (by first | (with_reducible assumption) | assumption)
                   have q676 : x24_4 < (t660.length : Int) := of_decide_eq_true (by first | (with_reducible assumption) | assumption)
                   obtain ⟨ad676, e676, hx676_0⟩ := Kd.at_int (Kd.R_reads' HO_18.out).2.2 x24_4 p676 q676
                   obtain rfl : ad674 = ad676 := (by injection e676)
                   replace p676 := eq_true p676
                   replace q676 := eq_true q676
                   have p677 : 0 ≤ (x24_4 : Int) := of_decide_eq_true (by first | (with_reducible assumption) | assumption)
                   have q677 : x24_4 < (t664.length : Int) := of_decide_eq_true (by first | (with_reducible assumption) | assumption)
                   obtain ⟨ad677, e677, hx677_0⟩ := Kd.at_int (Kd.R_reads' HO_19.out).2.2 x24_4 p677 q677
                   obtain rfl : ad675 = ad677 := (by injection e677)
                   replace p677 := eq_true p677
                   replace q677 := eq_true q677
                   refine start_ (n := 17) (S := fun w' => w'.cell? (ad674.add (x24_4).toNat) = some (.int .i64 (rd t660 x24_4)) ∧ w'.cell? (ad675.add (x24_4).toNat) = some (.int .i64 (rd t664 x24_4))) (ds := []) #[false, false, false, false, false, false, false, false, false, false, false, false, false, false, false, false, false] (by kernel_rfl) rfl rfl ⟨hx676_0, hx677_0⟩ (fun hHeld => ?_); refine with_tabW pomadelaw03_ChairsRanked.tab23 pomadelaw03_ChairsRanked.bits23 (fun HT_ HW_ => ?_)
                   generalize w58.drew = w60 at HO_18 HO_19 HB hx676_0 hx677_0 hHeld ⊢
                   refine pure_ (i := 0) (N := some 145) (v := ?_) (a' := ?_) #[true, false, false, false, false, false, false, false, false, false, false, false, false, false, false, false, false] rfl rfl (any_of HT_.out (by kernel_rfl)) (fun _ _ _ h => h) (Or.inl ⟨by rfl, ?_⟩) ?_ ?_
                   rotate_left
                   ·intro w'
                    go_simp
                    with_reducible rfl
                   rotate_left
                   ·simp only [Act.put, List.setIfInBounds_toArray, List.set_cons_zero, List.set_cons_succ, i64_w, i32_w]
                    rfl
                   refine pure_ (i := 1) (N := some 146) (v := ?_) (a' := ?_) #[true, true, false, false, false, false, false, false, false, false, false, false, false, false, false, false, false] rfl rfl (any_of HT_.out (by kernel_rfl)) (fun _ _ _ h => h) (Or.inl ⟨by rfl, ?_⟩) ?_ ?_
                   rotate_left
                   ·intro w'
                    go_simp
                    with_reducible rfl
                   rotate_left
                   ·simp only [Act.put, List.setIfInBounds_toArray, List.set_cons_zero, List.set_cons_succ, i64_w, i32_w]
                    rfl
                   refine pure_ (i := 2) (N := some 147) (v := ?_) (a' := ?_) #[true, true, true, false, false, false, false, false, false, false, false, false, false, false, false, false, false] rfl rfl (any_of HT_.out (by kernel_rfl)) (fun _ _ _ h => h) (Or.inl ⟨by rfl, ?_⟩) ?_ ?_
                   rotate_left
                   ·intro w'
                    go_simp
                    with_reducible rfl
                   rotate_left
                   ·simp only [Act.put, List.setIfInBounds_toArray, List.set_cons_zero, List.set_cons_succ, i64_w, i32_w]
                    rfl
                   refine pure_ (i := 4) (N := some 149) (v := ?_) (a' := ?_) #[true, true, true, false, true, false, false, false, false, false, false, false, false, false, false, false, false] rfl rfl (any_of HT_.out (by kernel_rfl)) (fun _ _ _ h => h) (Or.inl ⟨by rfl, ?_⟩) ?_ ?_
                   rotate_left
                   ·intro w'
                    go_simp
                    with_reducible rfl
                   rotate_left
                   ·simp only [Act.put, List.setIfInBounds_toArray, List.set_cons_zero, List.set_cons_succ, i64_w, i32_w]
                    rfl
                   refine pure_ (i := 5) (N := some 150) (v := ?_) (a' := ?_) #[true, true, true, false, true, true, false, false, false, false, false, false, false, false, false, false, false] rfl rfl (any_of HT_.out (by kernel_rfl)) (fun _ _ _ h => h) (Or.inl ⟨by rfl, ?_⟩) ?_ ?_
                   rotate_left
                   ·intro w'
                    go_simp
                    with_reducible rfl
                   rotate_left
                   ·simp only [Act.put, List.setIfInBounds_toArray, List.set_cons_zero, List.set_cons_succ, i64_w, i32_w]
                    rfl
                   refine pure_ (i := 6) (N := some 151) (v := ?_) (a' := ?_) #[true, true, true, false, true, true, true, false, false, false, false, false, false, false, false, false, false] rfl rfl (any_of HT_.out (by kernel_rfl)) (fun _ _ _ h => h) (Or.inl ⟨by rfl, ?_⟩) ?_ ?_
                   rotate_left
                   ·intro w'
                    go_simp
                    with_reducible rfl
                   rotate_left
                   ·simp only [Act.put, List.setIfInBounds_toArray, List.set_cons_zero, List.set_cons_succ, i64_w, i32_w]
                    rfl
                   refine pure_ (i := 9) (N := some 154) (v := ?_) (a' := ?_) #[true, true, true, false, true, true, true, false, false, true, false, false, false, false, false, false, false] rfl rfl (any_of HT_.out (by kernel_rfl)) (fun _ _ _ h => h) (Or.inl ⟨by rfl, ?_⟩) ?_ ?_
                   rotate_left
                   ·intro w'
                    go_simp
                    with_reducible rfl
                   rotate_left
                   ·simp only [Act.put, List.setIfInBounds_toArray, List.set_cons_zero, List.set_cons_succ, i64_w, i32_w]
                    rfl
                   refine pure_ (i := 10) (N := some 155) (v := ?_) (a' := ?_) #[true, true, true, false, true, true, true, false, false, true, true, false, false, false, false, false, false] rfl rfl (any_of HT_.out (by kernel_rfl)) (fun _ _ _ h => h) (Or.inl ⟨by rfl, ?_⟩) ?_ ?_
                   rotate_left
                   ·intro w'
                    go_simp
                    with_reducible rfl
                   rotate_left
                   ·simp only [Act.put, List.setIfInBounds_toArray, List.set_cons_zero, List.set_cons_succ, i64_w, i32_w]
                    rfl
                   refine pure_ (i := 11) (N := some 156) (v := ?_) (a' := ?_) #[true, true, true, false, true, true, true, false, false, true, true, true, false, false, false, false, false] rfl rfl (any_of HT_.out (by kernel_rfl)) (fun _ _ _ h => h) (Or.inl ⟨by rfl, ?_⟩) ?_ ?_
                   rotate_left
                   ·intro w'
                    go_simp
                    with_reducible rfl
                   rotate_left
                   ·simp only [Act.put, List.setIfInBounds_toArray, List.set_cons_zero, List.set_cons_succ, i64_w, i32_w]
                    rfl
                   refine take_ (i := 3) (N := some 148) (v := ?_) (a' := ?_) #[true, true, true, true, true, true, true, false, false, true, true, true, false, false, false, false, false] rfl rfl (take_ofW HT_.out HW_.out (by kernel_rfl)) (fun _ _ _ h => h) (Or.inl ⟨by rfl, ?_⟩) hHeld ?_ ?_
                   rotate_left
                   ·rintro w' ⟨s0, s1⟩
                    go_simp
                    with_reducible rfl
                   rotate_left
                   ·simp only [Act.put, List.setIfInBounds_toArray, List.set_cons_zero, List.set_cons_succ, i64_w, i32_w]
                    rfl
                   refine take_ (i := 7) (N := some 152) (v := ?_) (a' := ?_) #[true, true, true, true, true, true, true, true, false, true, true, true, false, false, false, false, false] rfl rfl (take_ofW HT_.out HW_.out (by kernel_rfl)) (fun _ _ _ h => h) (Or.inl ⟨by rfl, ?_⟩) hHeld ?_ ?_
                   rotate_left
                   ·rintro w' ⟨s0, s1⟩
                    go_simp
                    with_reducible rfl
                   rotate_left
                   ·simp only [Act.put, List.setIfInBounds_toArray, List.set_cons_zero, List.set_cons_succ, i64_w, i32_w]
                    rfl
                   refine pure_ (i := 8) (N := some 153) (v := ?_) (a' := ?_) #[true, true, true, true, true, true, true, true, true, true, true, true, false, false, false, false, false] rfl rfl (any_of HT_.out (by kernel_rfl)) (fun _ _ _ h => h) (Or.inl ⟨by rfl, ?_⟩) ?_ ?_
                   rotate_left
                   ·intro w'
                    go_simp
                    with_reducible rfl
                   rotate_left
                   ·simp only [Act.put, List.setIfInBounds_toArray, List.set_cons_zero, List.set_cons_succ, i64_w, i32_w]
                    rfl
                   refine pure_ (i := 12) (N := some 157) (v := ?_) (a' := ?_) #[true, true, true, true, true, true, true, true, true, true, true, true, true, false, false, false, false] rfl rfl (any_of HT_.out (by kernel_rfl)) (fun _ _ _ h => h) (Or.inl ⟨by rfl, ?_⟩) ?_ ?_
                   rotate_left
                   ·intro w'
                    go_simp
                    with_reducible rfl
                   rotate_left
                   ·simp only [Act.put, List.setIfInBounds_toArray, List.set_cons_zero, List.set_cons_succ, i64_w, i32_w]
                    rfl
                   refine pure_ (i := 13) (N := some 158) (v := ?_) (a' := ?_) #[true, true, true, true, true, true, true, true, true, true, true, true, true, true, false, false, false] rfl rfl (any_of HT_.out (by kernel_rfl)) (fun _ _ _ h => h) (Or.inl ⟨by rfl, ?_⟩) ?_ ?_
                   rotate_left
                   ·intro w'
                    go_simp
                    with_reducible rfl
                   rotate_left
                   ·simp only [Act.put, List.setIfInBounds_toArray, List.set_cons_zero, List.set_cons_succ, i64_w, i32_w]
                    rfl
                   refine pure_ (i := 14) (N := some 159) (v := undef) (a' := ?_) #[true, true, true, true, true, true, true, true, true, true, true, true, true, true, true, false, false] rfl rfl (any_of HT_.out (by kernel_rfl)) (fun _ _ _ h => h) (Or.inr ⟨by rfl, rfl⟩) ?_ ?_
                   rotate_left
                   ·simp only [Act.put, List.setIfInBounds_toArray, List.set_cons_zero, List.set_cons_succ, i64_w, i32_w]
                    rfl
                   refine pure_ (i := 15) (N := some 160) (v := ?_) (a' := ?_) #[true, true, true, true, true, true, true, true, true, true, true, true, true, true, true, true, false] rfl rfl (any_of HT_.out (by kernel_rfl)) (fun _ _ _ h => h) (Or.inl ⟨by rfl, ?_⟩) ?_ ?_
                   rotate_left
                   ·intro w'
                    go_simp
                    with_reducible rfl
                   rotate_left
                   ·simp only [Act.put, List.setIfInBounds_toArray, List.set_cons_zero, List.set_cons_succ, i64_w, i32_w]
                    rfl
                   refine pure_ (i := 16) (N := some 8) (v := ?_) (a' := ?_) #[true, true, true, true, true, true, true, true, true, true, true, true, true, true, true, true, true] rfl rfl (any_of HT_.out (by kernel_rfl)) (fun _ _ _ h => h) (Or.inl ⟨by rfl, ?_⟩) ?_ ?_
                   rotate_left
                   ·intro w'
                    go_simp
                    with_reducible rfl
                   rotate_left
                   ·simp only [Act.put, List.setIfInBounds_toArray, List.set_cons_zero, List.set_cons_succ, i64_w, i32_w]
                    rfl
                   refine done_ (done_of HT_.out (by kernel_rfl)) ?_
                   try go_wp2
                   go_ret
                   exact ⟨by first | rfl | (simp [errW_none, errW_some] <;> rfl) | (simp [*, errW_none, errW_some] <;> rfl), by repeat (first | (with_reducible first | exact HB.out | apply below_alloc | apply pw_below_drewN | apply below_drew1) | exact HB.out)⟩
                ·rw [if_neg c48] at H
                 exact absurd H (by simp)
               ·rw [if_neg c47] at H
                exact absurd H (by simp)
              ·rw [if_neg c46] at H
               exact absurd H (by simp)
             ·rw [if_neg c45] at H
              have c45b0 : decide (x24_4 < (wrap64 (1 + (wrap64 (Int.tmod a1 16))))) = false := decide_eq_false c45
              clear c45
              by_cases c61 : (wrap64 (Int.tmod a2 (IntKind.u64.wrap (t658)))) = (wrap64 (Int.tmod a3 (IntKind.u64.wrap (t658))))
              ·rw [if_pos c61] at H
               have c61b0 : ((wrap64 (Int.tmod a2 (IntKind.u64.wrap (t658)))) == (wrap64 (Int.tmod a3 (IntKind.u64.wrap (t658))))) = true := beq_iff_eq.mpr c61
               have c61b1 : ((wrap64 (Int.tmod a2 (IntKind.u64.wrap (t658)))) != (wrap64 (Int.tmod a3 (IntKind.u64.wrap (t658))))) = false := bne_eq_false_iff_eq.mpr c61
               clear c61
               replace H := Option.bind_eq_some_iff.mp H
               obtain ⟨t679, A620, H⟩ := H
               replace H : (some t679) = some r := H
               have A62 := Aside0.mk A620
               clear A620
               obtain rfl := Option.some.inj H
               go_wp2_with (first | (go_at_call 17; (with_reducible refine (pomadelaw03_alive.calls  t679 _ A62.out).mono ?_); rintro e w63 ⟨rfl, hb⟩; have n0_ := Aside0.mk (Kd.R_below (by (with_reducible repeat (first | apply Kd.R_alloc | apply Kd.R_drewN | apply Kd.R_drew)); exact HO_18.out) hb); have n1_ := Aside0.mk (Kd.R_below (by (with_reducible repeat (first | apply Kd.R_alloc | apply Kd.R_drewN | apply Kd.R_drew)); exact HO_19.out) hb); have n2_ := Aside0.mk (below_step (by repeat (first | (with_reducible first | exact HB.out | apply below_alloc | apply pw_below_drewN | apply below_drew1) | exact HB.out)) hb); clear HO_18; clear HO_19; clear HB; have HO_18 := n0_; have HO_19 := n1_; have HB := n2_; clear n0_ n1_ n2_; (try clear hb); (try clear hb2); (try clear hk); (try clear hi)))
               go_ret
               exact ⟨by first | rfl | (simp [errW_none, errW_some] <;> rfl) | (simp [*, errW_none, errW_some] <;> rfl), by repeat (first | (with_reducible first | exact HB.out | apply below_alloc | apply pw_below_drewN | apply below_drew1) | exact HB.out)⟩
              ·rw [if_neg c61] at H
               have c61b0 : ((wrap64 (Int.tmod a2 (IntKind.u64.wrap (t658)))) == (wrap64 (Int.tmod a3 (IntKind.u64.wrap (t658))))) = false := beq_eq_false_iff_ne.mpr c61
               have c61b1 : ((wrap64 (Int.tmod a2 (IntKind.u64.wrap (t658)))) != (wrap64 (Int.tmod a3 (IntKind.u64.wrap (t658))))) = true := bne_iff_ne.mpr c61
               obtain rfl := Option.some.inj H
               go_wp2
               go_ret
               exact ⟨by first | rfl | (simp [errW_none, errW_some] <;> rfl) | (simp [*, errW_none, errW_some] <;> rfl), by repeat (first | (with_reducible first | exact HB.out | apply below_alloc | apply pw_below_drewN | apply below_drew1) | exact HB.out)⟩
/-- THE ONE PURE STATEMENT of pomadelaw03_ChairsRanked: yours. -/
def pomadelaw03_ChairsRanked.Pure : Prop := ∀ (l0 : List Int) (a1 : Int) (a2 : Int) (a3 : Int), l0.length ≤ maxLen → l0.length * 8 ≤ 140737488351232 → (∀ x ∈ l0, (Lit.int .i64 x).wf = true) → (Lit.int .u8 a1).wf = true → (Lit.int .u64 a2).wf = true → (Lit.int .u64 a3).wf = true → ∃ k, pomadelaw03_ChairsRanked.f k l0 a1 a2 a3 = some true
theorem pomadelaw03_ChairsRanked.walk (P : pomadelaw03_ChairsRanked.Pure) (a0 : Option Addr) (len0 cap0 : Nat) (z0 : List Int) (a1 : Int) (a2 : Int) (a3 : Int) (w : World) (w0 : (a0 = none ∧ len0 = 0 ∧ cap0 = 0 ∧ z0 = []) ∨ ∃ x, a0 = some x ∧ len0 ≤ cap0 ∧ cap0 ≤ maxLen ∧ z0.length = cap0 ∧ (∀ i, i < z0.length → w.cell? (x.add i) = some (.int .i64 (z0.getD i 0))) ∧ ∀ n ∈ z0, (Lit.int .i64 n).wf = true) (y0 : len0 * 8 ≤ 140737488351232) (w1 : (Lit.int .u8 a1).wf = true) (w2 : (Lit.int .u64 a2).wf = true) (w3 : (Lit.int .u64 a3).wf = true) :
  Calls Try.prog 15 #[.slice a0 len0 cap0, .int .u8 a1, .int .u64 a2, .int .u64 a3] w fun e w' => e = .returned (.bool true) ∧ Below w.heap.size w w' := by
 obtain ⟨l0, rfl, hr0, hm0, hw0, hc0⟩ := ReadsInt.ofRowC w0
 obtain ⟨k, h⟩ := P l0 a1 a2 a3 hm0 y0 hw0 w1 w2 w3
 refine (pomadelaw03_ChairsRanked.calls k _ _ l0 a1 a2 a3 true w (Kd.C_of_reads (d := (0 : Int)) (h1 := fun _ => rfl) hr0) hc0 h).mono ?_
 rintro e w' ⟨rfl, hd⟩
 exact ⟨rfl, hd⟩
end Go.Proofs.Ytfopeenjpdaacaa.PC
end
section
/- Chairs: the errors of wishes, and who sits where, by the program and by the specification. -/
namespace Go.Proofs.Ytfopeenjpdaacaa.L
open Go.RowKit Go.Proofs.Ytfopeenjpdaacaa.PC Go.Proofs.YtfopeenjpdaacaaW.PrintWords Go.Proofs.YtfopeenjpdaacaaW.PrintLast
theorem w64 {x : Int} (h0 : -9223372036854775808 ≤ x) (h1 : x ≤ 9223372036854775807) : wrap64 x = x := by unfold wrap64; omega
/-- the errors of a row and wishes -/
def rowV (m : Int) (l : List Int) : Int := if m < 1 ∨ m > 30 then 2 else if (l.length : Int) > m then 3 else if l.all (fun w => decide (0 ≤ w ∧ w < m)) = true then 0 else 2
theorem wished_ev (m : Int) (l : List Int) : chairs_wished.f m l = some (rowV m l) := by
  unfold chairs_wished.f rowV
  split
  · rfl
  · split
    · rfl
    · split <;> rfl
structure Row (m : Int) (l : List Int) : Prop where
  m1 : 1 ≤ m
  m30 : m ≤ 30
  len : (l.length : Int) ≤ m
  all : ∀ w ∈ l, 0 ≤ w ∧ w < m
theorem row_iff (m : Int) (l : List Int) : rowV m l = 0 ↔ Row m l := by
  unfold rowV
  constructor
  · intro h
    split at h
    · omega
    · split at h
      · omega
      · split at h
        · rename_i h1 h2 h3
          exact ⟨by omega, by omega, by omega, fun w hw => by simpa using List.all_eq_true.1 h3 w hw⟩
        · omega
  · rintro ⟨a, b, c, d⟩
    rw [if_neg (by omega), if_neg (by omega), if_pos (List.all_eq_true.2 fun w hw => by simpa using d w hw)]
theorem rd_mem (l : List Int) (q : Nat) (h : q < l.length) : rd l (q : Int) ∈ l := by simp [rd, List.getD_eq_getElem?_getD, h]
theorem drop_rd (l : List Int) (q : Nat) (h : q < l.length) : l.drop q = rd l (q : Int) :: l.drop (q + 1) := by
  rw [List.drop_eq_getElem_cons h]; simp [rd, List.getD_eq_getElem?_getD, h]
/-! ### the chair of each customer -/
/-- the first free chair from c on -/
def seat (T : List Bool) : Nat → Int → Int
  | 0, c => c
  | d + 1, c => if rdOf false T c = true then seat T d (c + 1) else c
theorem seat_range (T : List Bool) (d : Nat) : ∀ c : Int, c ≤ seat T d c ∧ seat T d c ≤ c + d := by
  induction d with
  | zero => intro c; simp [seat]
  | succ d ih =>
    intro c
    simp only [seat]
    split
    · have := ih (c + 1); omega
    · omega
/-- the chairs of all; false: somebody finds none -/
def sitL (m : Int) : List Int → List Bool → List Int → List Int × Bool
  | [], _, out => (out, true)
  | w :: ws, T, out => if seat T (m - w).toNat w = m then ([], false) else sitL m ws (T.set (seat T (m - w).toNat w).toNat true) (out ++ [seat T (m - w).toNat w])
theorem psit1 (m : Int) (T : List Bool) (hT : (T.length : Int) = m) (hm : m ≤ 1000000) (out l : List Int) (ho : out.length ≤ 1000000) (L i : Int) (hi : 0 ≤ i) (hi2 : i ≤ 1000000) (r : List Int × Bool) (d : Nat) : ∀ c s : Int, 0 ≤ c → c + d = m → seat T d c = s →
    (if s = m then r = ([], false) else Ev (fun k => chairs_sit.l0 k m (T.set s.toNat true) (out ++ [s]) l L (i + 1)) r) →
    Ev (fun k => chairs_sit.l1 k m T out c l L i) r := by
  induction d with
  | zero =>
    intro c s h0 hc hs h
    obtain rfl : c = m := by omega
    simp only [seat] at hs
    subst hs
    rw [if_pos rfl] at h
    subst h
    refine Ev.step (f := fun _ => some ([], false)) (fun k => ?_) (Ev.now _)
    simp only [chairs_sit.l1]
    rw [if_neg (by omega), if_pos trivial]
  | succ d ih =>
    intro c s h0 hc hs h
    simp only [seat] at hs
    by_cases c1 : rdOf false T c = true
    · rw [if_pos c1] at hs
      refine Ev.step (fun k => ?_) (ih (c + 1) s (by omega) (by omega) hs h)
      simp only [chairs_sit.l1]
      rw [if_pos (by omega), if_pos h0, if_pos (by omega), if_pos c1, w64 (by omega) (by omega)]
    · rw [if_neg c1] at hs
      subst hs
      rw [if_neg (by omega)] at h
      refine Ev.step (fun k => ?_) h
      simp only [chairs_sit.l1]
      rw [if_pos (by omega), if_pos h0, if_pos (by omega), if_neg c1, if_neg (by omega), if_pos (by omega), w64 (by omega) (by omega)]
theorem psit0 (m : Int) (hm : m ≤ 1000000) (l : List Int) (hl : l.length ≤ 1000000) (hw : ∀ w ∈ l, 0 ≤ w ∧ w < m) (d : Nat) : ∀ (q : Nat) (T : List Bool) (out : List Int), q + d = l.length → (T.length : Int) = m → out.length = q →
    Ev (fun k => chairs_sit.l0 k m T out l (l.length : Int) (q : Int)) (sitL m (l.drop q) T out) := by
  induction d with
  | zero =>
    intro q T out hq hT ho
    rw [List.drop_of_length_le (by omega)]
    refine Ev.step (f := fun _ => some (out, true)) (fun k => ?_) (Ev.now _)
    simp only [chairs_sit.l0]
    rw [if_neg (by omega)]
  | succ d ih =>
    intro q T out hq hT ho
    have hr := hw _ (rd_mem l q (by omega))
    refine Ev.step (f := fun k => chairs_sit.l1 k m T out (rd l (q : Int)) l (l.length : Int) (q : Int)) (fun k => ?_) ?_
    · simp only [chairs_sit.l0]
      rw [if_pos (by omega), if_pos (by omega), if_pos (by omega)]
    refine psit1 m T hT hm out l (by omega) _ _ (by omega) (by omega) _ (m - rd l (q : Int)).toNat (rd l (q : Int)) _ hr.1 (by omega) rfl ?_
    rw [drop_rd l q (by omega)]
    simp only [sitL]
    split
    · rfl
    · refine Ev.congr (fun k => ?_) (ih (q + 1) _ _ (by omega) (by rw [List.length_set]; exact hT) (by simp; omega))
      rfl
/-- who sits where -/
def sitV (m : Int) (l : List Int) : List Int × Bool := sitL m l (List.replicate m.toNat false) []
theorem psit_ev (m : Int) (l : List Int) (h : Row m l) : Ev (fun k => chairs_sit.f k m l) (sitV m l) := by
  have h1 := h.m1; have h2 := h.m30; have h3 := h.len
  refine Ev.congr (fun k => ?_) (psit0 m (by omega) l (by omega) h.all l.length 0 _ [] (by omega) (by simp; omega) rfl)
  unfold chairs_sit.f
  rw [if_pos (by omega), if_pos (by omega)]
  rfl
theorem same_loop (l : List Int) (hl : l.length ≤ 1000000) (d : Nat) : ∀ q : Nat, q + d = l.length → Ev (fun k => pomadelaw03_same.l0 k l l (q : Int)) true := by
  induction d with
  | zero =>
    intro q hq
    refine Ev.step (f := fun _ => some true) (fun k => ?_) (Ev.now _)
    simp only [pomadelaw03_same.l0]
    rw [if_neg (by omega)]
  | succ d ih =>
    intro q hq
    refine Ev.step (fun k => ?_) (ih (q + 1) (by omega))
    simp only [pomadelaw03_same.l0]
    rw [if_pos (by omega), if_pos (by omega), if_pos (by omega), w64 (by omega) (by omega)]
    simp
theorem same_ev (l : List Int) (hl : l.length ≤ 1000000) : Ev (fun k => pomadelaw03_same.f k l l) true :=
  Ev.congr (fun k => by unfold pomadelaw03_same.f; rw [if_pos rfl]; rfl) (same_loop l hl l.length 0 (by omega))
end Go.Proofs.Ytfopeenjpdaacaa.L
end
section
/- Parking, in plain numbers: customers who walk on to the next free chair. In whatever order they come, the same chairs are taken; everybody sits below n exactly if for each k at least k wish a chair below k. -/
namespace Go.Proofs.Ytfopeenjpdaacaa.MPark
/-- c is the first chair from w on that is free -/
structure Nx (S : Nat → Bool) (w c : Nat) : Prop where
  le : w ≤ c
  free : S c = false
  full : ∀ j, w ≤ j → j < c → S j = true
def up (S : Nat → Bool) (c : Nat) : Nat → Bool := fun j => if j = c then true else S j
theorem up_eq (S : Nat → Bool) (c : Nat) : up S c c = true := by simp [up]
theorem up_ne {S : Nat → Bool} {c j : Nat} (h : j ≠ c) : up S c j = S j := by simp [up, h]
theorem Nx.uniq {S : Nat → Bool} {w c d : Nat} (h : Nx S w c) (k : Nx S w d) : c = d := by
  rcases Nat.lt_trichotomy c d with e | e | e
  · have := k.full c h.le e; rw [h.free] at this; cases this
  · exact e
  · have := h.full d k.le e; rw [k.free] at this; cases this
theorem Nx.ex {S : Nat → Bool} {B : Nat} (hB : ∀ c, B ≤ c → S c = false) : ∀ (d w : Nat), B ≤ w + d → ∃ c, Nx S w c
  | 0, w, h => ⟨w, Nat.le_refl _, hB w h, fun j h1 h2 => by omega⟩
  | d + 1, w, h => by
    cases hw : S w with
    | false => exact ⟨w, Nat.le_refl _, hw, fun j h1 h2 => by omega⟩
    | true =>
      obtain ⟨c, h1, h2, h3⟩ := Nx.ex hB d (w + 1) (by omega)
      refine ⟨c, by omega, h2, fun j h4 h5 => ?_⟩
      by_cases e : j = w
      · rw [e]; exact hw
      · exact h3 j (by omega) h5
/-- all come one after the other: the wishes, what is taken before and behind, the chairs -/
inductive Park : List Nat → (Nat → Bool) → (Nat → Bool) → List Nat → Prop
  | nil (S : Nat → Bool) : Park [] S S []
  | cons {S S' : Nat → Bool} {w c : Nat} {ws cs : List Nat} (h : Nx S w c) (k : Park ws (up S c) S' cs) : Park (w :: ws) S S' (c :: cs)
theorem Park.ex (ws : List Nat) : ∀ (S : Nat → Bool) (B : Nat), (∀ c, B ≤ c → S c = false) → ∃ S' cs, Park ws S S' cs := by
  induction ws with
  | nil => exact fun S _ _ => ⟨S, [], .nil S⟩
  | cons w ws ih =>
    intro S B hB
    obtain ⟨c, hc⟩ := Nx.ex hB B w (by omega)
    obtain ⟨S', cs, h⟩ := ih (up S c) (max B (c + 1)) (fun j hj => by rw [up_ne (by omega)]; exact hB j (by omega))
    exact ⟨S', c :: cs, .cons hc h⟩
theorem Park.uniq {ws : List Nat} : ∀ {S S1 S2 : Nat → Bool} {cs ds : List Nat}, Park ws S S1 cs → Park ws S S2 ds → S1 = S2 ∧ cs = ds := by
  induction ws with
  | nil => intro S S1 S2 cs ds h k; cases h; cases k; exact ⟨rfl, rfl⟩
  | cons w ws ih =>
    intro S S1 S2 cs ds h k
    cases h with
    | cons h h' =>
      cases k with
      | cons k k' =>
        obtain rfl := h.uniq k
        obtain ⟨e1, e2⟩ := ih h' k'
        exact ⟨e1, by rw [e2]⟩
theorem Park.length {ws : List Nat} {S S1 : Nat → Bool} {cs : List Nat} (h : Park ws S S1 cs) : cs.length = ws.length := by
  induction h with
  | nil => rfl
  | cons _ _ ih => simp [ih]
/-- how often a chair is given -/
theorem Park.count {ws : List Nat} {S S1 : Nat → Bool} {cs : List Nat} (h : Park ws S S1 cs) (j : Nat) : cs.count j + (if S j = true then 1 else 0) = if S1 j = true then 1 else 0 := by
  induction h with
  | nil => simp
  | @cons S S' w c ws cs h _ ih =>
    rw [← ih, List.count_cons]
    by_cases e : j = c
    · subst e
      rw [up_eq, h.free]; simp
    · rw [up_ne e]
      have : (c == j) = false := beq_eq_false_iff_ne.2 (fun g => e g.symm)
      rw [this]; simp
/-- those that are taken below a chair -/
def cnt (S : Nat → Bool) : Nat → Nat
  | 0 => 0
  | k + 1 => cnt S k + if S k = true then 1 else 0
theorem cnt_le (S : Nat → Bool) (k : Nat) : cnt S k ≤ k := by
  induction k with
  | zero => simp [cnt]
  | succ k ih => simp only [cnt]; split <;> omega
theorem cnt_up {S : Nat → Bool} {c : Nat} (h : S c = false) (k : Nat) : cnt (up S c) k = cnt S k + if c < k then 1 else 0 := by
  induction k with
  | zero => simp [cnt]
  | succ k ih =>
    simp only [cnt, ih]
    by_cases e : k = c
    · subst e; rw [up_eq, h]; simp
    · rw [up_ne e]
      split <;> split <;> split <;> omega
theorem cnt_full {S : Nat → Bool} (n : Nat) (h : cnt S n = n) : ∀ j, j < n → S j = true := by
  induction n with
  | zero => intro j hj; omega
  | succ n ih =>
    simp only [cnt] at h
    have := cnt_le S n
    intro j hj
    cases hs : S n with
    | false => rw [hs] at h; simp at h; omega
    | true =>
      rw [hs] at h; simp at h
      by_cases e : j = n
      · rw [e]; exact hs
      · exact ih h j (by omega)
theorem cnt_of_full {S : Nat → Bool} (n : Nat) (h : ∀ j, j < n → S j = true) : cnt S n = n := by
  induction n with
  | zero => rfl
  | succ n ih => simp only [cnt]; rw [ih (fun j hj => h j (by omega)), h n (by omega)]; simp
theorem cnt_gap {S : Nat → Bool} (n : Nat) (h : cnt S n < n) : ∃ c, c < n ∧ S c = false := by
  induction n with
  | zero => omega
  | succ n ih =>
    cases hs : S n with
    | false => exact ⟨n, by omega, hs⟩
    | true =>
      simp only [cnt] at h
      rw [hs] at h; simp at h
      obtain ⟨c, h1, h2⟩ := ih (by omega)
      exact ⟨c, by omega, h2⟩
theorem Park.cnt {ws : List Nat} {S S1 : Nat → Bool} {cs : List Nat} (h : Park ws S S1 cs) (k : Nat) : cnt S1 k = cnt S k + cs.countP (fun c => decide (c < k)) := by
  induction h with
  | nil => simp
  | @cons S S' w c ws cs h _ ih => rw [ih, cnt_up h.free, List.countP_cons]; by_cases e : c < k <;> simp [e] <;> omega
theorem Park.cnt_le {ws : List Nat} {S S1 : Nat → Bool} {cs : List Nat} (h : Park ws S S1 cs) (k : Nat) : MPark.cnt S1 k ≤ MPark.cnt S k + ws.countP (fun c => decide (c < k)) := by
  induction h with
  | nil => simp
  | @cons S S' w c ws cs h _ ih =>
    have := h.le
    rw [cnt_up h.free] at ih
    rw [List.countP_cons]
    by_cases e : w < k <;> by_cases e' : c < k <;> simp [e, e'] at ih ⊢ <;> omega
theorem Park.keep {ws : List Nat} {S S1 : Nat → Bool} {cs : List Nat} (h : Park ws S S1 cs) (j : Nat) (hj : S1 j = false) : S j = false := by
  have := h.count j
  rw [hj] at this
  cases hs : S j with
  | false => rfl
  | true => rw [hs] at this; simp at this
/-- nobody passes a chair that stays free -/
theorem Park.free {ws : List Nat} {S S1 : Nat → Bool} {cs : List Nat} (h : Park ws S S1 cs) (e : Nat) (he : S1 e = false) : MPark.cnt S1 e = MPark.cnt S e + ws.countP (fun c => decide (c < e + 1)) := by
  induction h with
  | nil => simp
  | @cons S S' w c ws cs h k ih =>
    rw [ih he, cnt_up h.free, List.countP_cons]
    have h1 := k.keep e he
    have hne : e ≠ c := fun g => by rw [g, up_eq] at h1; cases h1
    rw [up_ne hne] at h1
    have h2 := h.le
    by_cases a : w < e + 1
    · have : c < e := by
        rcases Nat.lt_or_ge e c with g | g
        · have := h.full e (by omega) g; rw [h1] at this; cases this
        · omega
      simp [a, this]; omega
    · simp [a, show ¬ c < e by omega]
theorem countP_all {l : List Nat} {p : Nat → Bool} : l.countP p = l.length ↔ ∀ c ∈ l, p c = true := List.countP_eq_length
/-- no chair is taken -/
def no : Nat → Bool := fun _ => false
theorem cnt_no (k : Nat) : cnt no k = 0 := by
  induction k with
  | zero => rfl
  | succ k ih => simp [cnt, ih, no]
/-- n customers for n chairs: everybody sits below n exactly if for each k at least k wish a chair below k -/
theorem good_iff {ws : List Nat} {S1 : Nat → Bool} {cs : List Nat} (h : Park ws no S1 cs) : (∀ c ∈ cs, c < ws.length) ↔ ∀ k, 1 ≤ k → k ≤ ws.length → k ≤ ws.countP (fun c => decide (c < k)) := by
  constructor
  · intro hc k h1 h2
    have e1 := h.cnt ws.length
    rw [cnt_no, countP_all.2 (fun c hm => by simpa using hc c hm), h.length, Nat.zero_add] at e1
    have e2 := cnt_of_full k (fun j hj => cnt_full _ e1 j (by omega))
    have e3 := h.cnt_le k
    rw [cnt_no] at e3
    omega
  · intro hk
    refine Classical.byContradiction fun hn => ?_
    have e1 := h.cnt ws.length
    rw [cnt_no, Nat.zero_add] at e1
    have e2 : cs.countP (fun c => decide (c < ws.length)) ≤ cs.length := List.countP_le_length
    rw [h.length] at e2
    have e3 : cs.countP (fun c => decide (c < ws.length)) ≠ ws.length := fun e => hn fun c hm => by
      have := countP_all.1 (e.trans h.length.symm) c hm
      simpa using this
    obtain ⟨c, h1, h2⟩ := cnt_gap (S := S1) ws.length (by omega)
    have e4 := h.free c h2
    have e5 := cnt_le S1 c
    have e6 := hk (c + 1) (by omega) (by omega)
    rw [cnt_no] at e4
    omega
/-- everybody who wishes a free chair of his own stays there -/
theorem Park.same {cs : List Nat} : ∀ {S : Nat → Bool}, (∀ c ∈ cs, S c = false) → cs.Nodup → ∃ S1, Park cs S S1 cs := by
  induction cs with
  | nil => exact fun _ _ => ⟨_, .nil _⟩
  | cons c cs ih =>
    intro S h1 h2
    rw [List.nodup_cons] at h2
    obtain ⟨S1, h3⟩ := ih (S := up S c) (fun x hx => by rw [up_ne (fun e => h2.1 (by rw [← e]; exact hx))]; exact h1 x (List.mem_cons_of_mem _ hx)) h2.2
    exact ⟨S1, .cons ⟨Nat.le_refl _, h1 c List.mem_cons_self, fun j a b => by omega⟩ h3⟩
theorem Park.nodup {ws : List Nat} {S S1 : Nat → Bool} {cs : List Nat} (h : Park ws S S1 cs) : cs.Nodup := by
  rw [List.nodup_iff_count]
  intro j
  have := h.count j
  split at this <;> split at this <;> omega
end Go.Proofs.Ytfopeenjpdaacaa.MPark
end
section
/- Who sits where, told by the plain parking: the program's row of chairs and the plain one. -/
namespace Go.Proofs.Ytfopeenjpdaacaa.L
open Go.RowKit Go.Proofs.Ytfopeenjpdaacaa.PC Go.Proofs.YtfopeenjpdaacaaW.PrintWords Go.Proofs.YtfopeenjpdaacaaW.PrintLast Go.Proofs.Ytfopeenjpdaacaa.MPark
theorem seat_nx (m : Int) (T : List Bool) (S : Nat → Bool) (hS : ∀ j, S j = T.getD j false) (d : Nat) : ∀ c : Int, 0 ≤ c → c + d = m →
    (seat T d c < m → Nx S c.toNat (seat T d c).toNat) ∧ (seat T d c = m → ∀ j : Nat, c.toNat ≤ j → (j : Int) < m → S j = true) := by
  induction d with
  | zero =>
    intro c h0 hc
    simp only [seat]
    exact ⟨fun h => by omega, fun _ j h1 h2 => by omega⟩
  | succ d ih =>
    intro c h0 hc
    simp only [seat]
    have e : rdOf false T c = S c.toNat := by rw [hS]; rfl
    rw [e]
    cases hs : S c.toNat with
    | false =>
      simp only [Bool.false_eq_true, if_false]
      exact ⟨fun _ => ⟨Nat.le_refl _, hs, fun j h1 h2 => by omega⟩, fun h => by omega⟩
    | true =>
      simp only [if_true]
      obtain ⟨h1, h2⟩ := ih (c + 1) (by omega) (by omega)
      refine ⟨fun h => ?_, fun h j h3 h4 => ?_⟩
      · obtain ⟨a, b, f⟩ := h1 h
        refine ⟨by omega, b, fun j h3 h4 => ?_⟩
        by_cases g : j = c.toNat
        · rw [g]; exact hs
        · exact f j (by omega) h4
      · by_cases g : j = c.toNat
        · rw [g]; exact hs
        · exact h2 h j (by omega) h4
theorem sitL_park (m : Int) (l : List Int) : ∀ (T : List Bool) (S S' : Nat → Bool) (cs : List Nat) (out : List Int), (T.length : Int) = m → (∀ w ∈ l, 0 ≤ w ∧ w < m) → (∀ j, S j = T.getD j false) → Park (l.map Int.toNat) S S' cs →
    sitL m l T out = if cs.all (fun c => decide ((c : Int) < m)) = true then (out ++ cs.map (fun c : Nat => (c : Int)), true) else ([], false) := by
  induction l with
  | nil =>
    intro T S S' cs out hT hall hS hP
    cases hP
    simp [sitL]
  | cons w ws ih =>
    intro T S S' cs out hT hall hS hP
    obtain ⟨w0, w1⟩ := hall w List.mem_cons_self
    rw [List.map_cons] at hP
    cases hP with
    | @cons _ _ _ c _ cs hN hP =>
      obtain ⟨h1, h2⟩ := seat_nx m T S hS (m - w).toNat w w0 (by omega)
      have hr := seat_range T (m - w).toNat w
      simp only [sitL]
      by_cases e : seat T (m - w).toNat w = m
      · rw [if_pos e]
        have hc : ¬ (c : Int) < m := fun hc => by
          have := h2 e c hN.le hc
          rw [hN.free] at this
          cases this
        rw [if_neg]
        simp [hc]
      · rw [if_neg e]
        have hlt : seat T (m - w).toNat w < m := by omega
        have hc := (h1 hlt).uniq hN
        have hci : seat T (m - w).toNat w = (c : Int) := by omega
        rw [hci, Int.toNat_natCast]
        rw [ih (T.set c true) (up S c) S' cs (out ++ [(c : Int)]) (by rw [List.length_set]; exact hT) (fun x hx => hall x (List.mem_cons_of_mem _ hx)) (fun j => by
          unfold up
          by_cases g : j = c
          · rw [if_pos g, g, List.getD_eq_getElem?_getD, List.getElem?_set_self (by omega)]; rfl
          · rw [if_neg g, hS j, List.getD_eq_getElem?_getD, List.getD_eq_getElem?_getD, List.getElem?_set_ne (Ne.symm g)]) hP]
        have hcm : decide ((c : Int) < m) = true := decide_eq_true (by omega)
        simp [hcm]
/-- who sits where, by the plain parking -/
theorem sitV_park (m : Int) (l : List Int) (h : Row m l) : ∃ S' cs, Park (l.map Int.toNat) no S' cs ∧ sitV m l = if cs.all (fun c => decide ((c : Int) < m)) = true then (cs.map (fun c : Nat => (c : Int)), true) else ([], false) := by
  obtain ⟨S', cs, hP⟩ := Park.ex (l.map Int.toNat) no 0 (fun _ _ => rfl)
  refine ⟨S', cs, hP, ?_⟩
  have h1 := h.m1
  have := sitL_park m l (List.replicate m.toNat false) no S' cs [] (by simp; omega) h.all (fun j => by
    unfold no
    rw [List.getD_eq_getElem?_getD, List.getElem?_replicate]
    split <;> rfl) hP
  simpa [sitV] using this
/-- how many wish a chair below k -/
def below (l : List Int) (k : Int) : Nat := l.countP (fun w => decide (w < k))
theorem below_nat (l : List Int) (h : ∀ w ∈ l, 0 ≤ w) (k : Nat) : (l.map Int.toNat).countP (fun c => decide (c < k)) = below l (k : Int) := by
  unfold below
  rw [List.countP_map]
  refine List.countP_congr fun w hw => ?_
  have := h w hw
  simp
  omega
/-- wishes of n customers for n chairs are good exactly if at least k of them are below k, for each k -/
theorem good_below (l : List Int) (h : Row (l.length : Int) l) : (sitV (l.length : Int) l).2 = true ↔ ∀ k : Nat, 1 ≤ k → k ≤ l.length → k ≤ below l (k : Int) := by
  obtain ⟨S', cs, hP, e⟩ := sitV_park _ l h
  have hg := good_iff hP
  rw [List.length_map] at hg
  have e2 : (sitV (l.length : Int) l).2 = true ↔ ∀ c ∈ cs, c < l.length := by
    rw [e]
    by_cases c : cs.all (fun c => decide ((c : Int) < (l.length : Int))) = true
    · rw [if_pos c]
      simpa using c
    · rw [if_neg c]
      simpa using c
  rw [e2, hg]
  constructor
  · intro g k h1 h2
    have := g k h1 h2
    rwa [below_nat l (fun w hw => (h.all w hw).1)] at this
  · intro g k h1 h2
    rw [below_nat l (fun w hw => (h.all w hw).1)]
    exact g k h1 h2
end Go.Proofs.Ytfopeenjpdaacaa.L
end
section
/- Lists of wishes that begin with some: how many go on to good ones, chair by chair; the same number one wish later. -/
namespace Go.Proofs.Ytfopeenjpdaacaa.MRank
/-- how many choices of m out of j -/
def C : Nat → Nat → Nat
  | _, 0 => 1
  | 0, _ + 1 => 0
  | j + 1, m + 1 => C j m + C j (m + 1)
theorem C_zero (j : Nat) : C j 0 = 1 := by cases j <;> rfl
theorem C_gt : ∀ j m, j < m → C j m = 0
  | _, 0, h => by omega
  | 0, _ + 1, _ => rfl
  | j + 1, m + 1, h => by simp only [C]; rw [C_gt j m (by omega), C_gt j (m + 1) (by omega)]
/-- a sum over 0 .. n - 1 -/
def sm (n : Nat) (f : Nat → Nat) : Nat := match n with
  | 0 => 0
  | n + 1 => sm n f + f n
theorem sm_congr {f g : Nat → Nat} : ∀ n, (∀ i, i < n → f i = g i) → sm n f = sm n g
  | 0, _ => rfl
  | n + 1, h => by simp only [sm]; rw [sm_congr n (fun i hi => h i (by omega)), h n (by omega)]
theorem sm_add (f g : Nat → Nat) : ∀ n, sm n (fun i => f i + g i) = sm n f + sm n g
  | 0 => rfl
  | n + 1 => by simp only [sm]; rw [sm_add f g n]; omega
theorem sm_mul (a : Nat) (f : Nat → Nat) : ∀ n, sm n (fun i => a * f i) = a * sm n f
  | 0 => rfl
  | n + 1 => by simp only [sm]; rw [sm_mul a f n, Nat.mul_add]
theorem sm_mulr (a : Nat) (f : Nat → Nat) (n : Nat) : sm n (fun i => f i * a) = sm n f * a := by
  rw [Nat.mul_comm, ← sm_mul]; exact sm_congr n (fun i _ => Nat.mul_comm _ _)
theorem sm_zero : ∀ n, sm n (fun _ => 0) = 0
  | 0 => rfl
  | n + 1 => by simp only [sm]; rw [sm_zero n]
theorem sm_front (f : Nat → Nat) : ∀ n, sm (n + 1) f = f 0 + sm n (fun i => f (i + 1))
  | 0 => by simp [sm]
  | n + 1 => by rw [sm, sm_front f n]; simp only [sm]; omega
theorem sm_swap (f : Nat → Nat → Nat) (m : Nat) : ∀ n, sm n (fun i => sm m (fun j => f i j)) = sm m (fun j => sm n (fun i => f i j))
  | 0 => (sm_zero m).symm
  | n + 1 => by
    simp only [sm]
    rw [sm_swap f m n, ← sm_add]
theorem sm_le {f g : Nat → Nat} : ∀ n, (∀ i, i < n → f i ≤ g i) → sm n f ≤ sm n g
  | 0, _ => Nat.le_refl _
  | n + 1, h => by simp only [sm]; have := sm_le n (fun i hi => h i (by omega)); have := h n (by omega); omega
theorem sm_one {f : Nat → Nat} {i : Nat} : ∀ n, i < n → f i ≤ sm n f
  | 0, h => by omega
  | n + 1, h => by
    simp only [sm]
    by_cases e : i = n
    · rw [e]; omega
    · have := sm_one (f := f) n (show i < n by omega); omega
theorem sm_more {f : Nat → Nat} {m : Nat} : ∀ n, m ≤ n → sm m f ≤ sm n f
  | 0, h => by have : m = 0 := by omega
               rw [this]; exact Nat.le_refl _
  | n + 1, h => by
    by_cases e : m = n + 1
    · rw [e]; exact Nat.le_refl _
    · have := sm_more (f := f) n (show m ≤ n by omega); simp only [sm]; omega
theorem sm_cut {f : Nat → Nat} {m : Nat} : ∀ n, m ≤ n → (∀ i, m ≤ i → i < n → f i = 0) → sm n f = sm m f
  | 0, h, _ => by have : m = 0 := by omega
                  rw [this]
  | n + 1, h, z => by
    by_cases e : m = n + 1
    · rw [e]
    · simp only [sm]; rw [sm_cut n (show m ≤ n by omega) (fun i a b => z i a (by omega)), z n (by omega) (by omega)]; omega
/-- d chairs are left, g e of the wishes that are known are for the last e of them, j others wish: so many lists are good -/
def E (g : Nat → Nat) : Nat → Nat → Nat
  | 0, j => if j = 0 then 1 else 0
  | d + 1, j => sm (j + 1) fun m => C j m * (if g d + m ≤ d then E g d m else 0)
theorem E_congr {g h : Nat → Nat} : ∀ d, (∀ e, e < d → g e = h e) → ∀ j, E g d j = E h d j
  | 0, _, j => rfl
  | d + 1, H, j => by
    simp only [E]
    refine sm_congr _ (fun m _ => ?_)
    rw [H d (by omega), E_congr d (fun e he => H e (by omega)) m]
/-- one more wish, for the chair with y - 1 chairs behind it -/
def up (g : Nat → Nat) (y : Nat) : Nat → Nat := fun e => g e + if y ≤ e then 1 else 0
theorem E_one (g : Nat → Nat) : ∀ d j, E g d (j + 1) = sm d (fun y => E (up g (y + 1)) d j)
  | 0, j => by simp [E, sm]
  | d + 1, j => by
    have hp : ∀ a : Nat → Nat, sm (j + 2) (fun m => C (j + 1) m * a m) = sm (j + 1) (fun m => C j m * a m) + sm (j + 1) (fun m => C j m * a (m + 1)) := by
      intro a
      rw [sm_front, sm_congr (j + 1) (g := fun m => C j m * a (m + 1) + C j (m + 1) * a (m + 1)) (fun m _ => by simp only [C]; rw [Nat.add_mul]), sm_add, C_zero]
      have e := sm_front (fun m => C j m * a m) (j + 1)
      simp only [sm, C_gt j (j + 1) (by omega), C_zero] at e ⊢
      omega
    show sm (j + 2) _ = sm d _ + E (up g (d + 1)) (d + 1) j
    rw [hp (fun m => if g d + m ≤ d then E g d m else 0), Nat.add_comm]
    congr 1
    · have : ∀ y, y < d → E (up g (y + 1)) (d + 1) j = sm (j + 1) (fun m => C j m * (if g d + (m + 1) ≤ d then E (up g (y + 1)) d m else 0)) := by
        intro y hy
        simp only [E]
        refine sm_congr _ (fun m _ => ?_)
        have : up g (y + 1) d + m = g d + (m + 1) := by unfold up; rw [if_pos (by omega)]; omega
        rw [this]
      rw [sm_congr d this, sm_swap]
      refine sm_congr _ (fun m _ => ?_)
      rw [sm_mul]
      congr 1
      split
      · exact E_one g d m
      · exact (sm_zero d).symm
    · simp only [E]
      refine sm_congr _ (fun m _ => ?_)
      have h0 : up g (d + 1) d = g d := by unfold up; rw [if_neg (by omega)]; rfl
      rw [h0, E_congr d (g := g) (h := up g (d + 1)) (fun e he => by unfold up; rw [if_neg (by omega)]; rfl) m]
/-- forward: now r = how many ways there are up to here so that r are left; the next chair, with d chairs behind it -/
def fw (g : Nat → Nat) (L d : Nat) (now : Nat → Nat) : Nat → Nat := fun m => if g d + m ≤ d then sm (L + 1) (fun r => now r * C r m) else 0
theorem fw_keep (g : Nat → Nat) (L d : Nat) (now : Nat → Nat) : sm (L + 1) (fun m => fw g L d now m * E g d m) = sm (L + 1) (fun r => now r * E g (d + 1) r) := by
  have h : ∀ r, r < L + 1 → now r * E g (d + 1) r = sm (L + 1) (fun m => now r * C r m * (if g d + m ≤ d then E g d m else 0)) := by
    intro r hr
    simp only [E]
    rw [← sm_mul, sm_congr (r + 1) (g := fun m => now r * C r m * (if g d + m ≤ d then E g d m else 0)) (fun m _ => by rw [Nat.mul_assoc])]
    refine (sm_cut (L + 1) (by omega) (fun m a b => ?_)).symm
    rw [C_gt r m (by omega)]; simp
  rw [sm_congr (L + 1) h, sm_swap]
  refine sm_congr _ (fun m _ => ?_)
  unfold fw
  split
  · rw [sm_mulr]
  · simp [sm_zero]
/-- the forward table, c chairs on -/
def Fw (g : Nat → Nat) (n L : Nat) : Nat → Nat → Nat
  | 0 => fun r => if r = L then 1 else 0
  | c + 1 => fw g L (n - c - 1) (Fw g n L c)
theorem Fw_keep (g : Nat → Nat) (n L : Nat) : ∀ c, c ≤ n → sm (L + 1) (fun r => Fw g n L c r * E g (n - c) r) = E g n L
  | 0, _ => by
    simp only [Fw, sm, if_true, Nat.one_mul, Nat.sub_zero]
    rw [sm_congr L (g := fun _ => 0) (fun i hi => by rw [if_neg (by omega)]; simp), sm_zero]; omega
  | c + 1, h => by
    have := Fw_keep g n L c (by omega)
    rw [show n - c = (n - c - 1) + 1 by omega, ← fw_keep] at this
    simp only [Fw]
    rw [show n - (c + 1) = n - c - 1 by omega]
    exact this
theorem Fw_end (g : Nat → Nat) (n L : Nat) : Fw g n L n 0 = E g n L := by
  have h := Fw_keep g n L n (Nat.le_refl _)
  rw [Nat.sub_self, sm_front, sm_congr L (g := fun _ => 0) (fun i _ => by simp [E]), sm_zero] at h
  simpa [E] using h
/-- no number of the table is great -/
theorem binom (x : Nat) : ∀ r, sm (r + 1) (fun m => C r m * x ^ m) = (1 + x) ^ r
  | 0 => by simp [sm, C]
  | r + 1 => by
    rw [sm_front, sm_congr (r + 1) (g := fun m => x * (C r m * x ^ m) + C r (m + 1) * x ^ (m + 1)) (fun m _ => by simp only [C]; rw [Nat.pow_succ]; rw [Nat.add_mul]; congr 1; rw [← Nat.mul_assoc, Nat.mul_comm]), sm_add, sm_mul, binom x r]
    have e := sm_front (fun m => C r m * x ^ m) (r + 1)
    have e2 := binom x r
    simp only [sm, C_gt r (r + 1) (by omega), C_zero] at e e2 ⊢
    rw [Nat.pow_succ (1 + x) r, Nat.mul_add, Nat.mul_comm _ x]
    simp only [Nat.pow_zero] at e ⊢
    omega
theorem Fw_sum (g : Nat → Nat) (n L : Nat) : ∀ c x, sm (L + 1) (fun r => Fw g n L c r * x ^ r) ≤ (c + x) ^ L
  | 0, x => by
    simp only [Fw, sm, if_true, Nat.one_mul, Nat.zero_add]
    rw [sm_congr L (g := fun _ => 0) (fun i hi => by rw [if_neg (by omega)]; simp), sm_zero]; omega
  | c + 1, x => by
    have h := Fw_sum g n L c (1 + x)
    rw [show c + 1 + x = c + (1 + x) by omega]
    refine Nat.le_trans ?_ h
    have h1 : ∀ r, r < L + 1 → Fw g n L c r * (1 + x) ^ r = sm (L + 1) (fun m => Fw g n L c r * C r m * x ^ m) := by
      intro r hr
      rw [← binom, ← sm_mul, sm_congr (r + 1) (g := fun m => Fw g n L c r * C r m * x ^ m) (fun m _ => by rw [Nat.mul_assoc])]
      refine (sm_cut (L + 1) (by omega) (fun m a b => ?_)).symm
      rw [C_gt r m (by omega)]; simp
    rw [sm_congr (L + 1) h1, sm_swap]
    refine sm_le _ (fun m _ => ?_)
    simp only [Fw, fw]
    split
    · rw [← sm_mulr]; exact Nat.le_refl _
    · simp
theorem Fw_le (g : Nat → Nat) (n L c r : Nat) (hr : r ≤ L) : Fw g n L c r ≤ (c + 1) ^ L := by
  refine Nat.le_trans ?_ (Fw_sum g n L c 1)
  have := sm_one (f := fun r => Fw g n L c r * 1 ^ r) (L + 1) (show r < L + 1 by omega)
  simpa using this
end Go.Proofs.Ytfopeenjpdaacaa.MRank
end
section
/- Ranks of good lists, and the list with a rank: plainly, over any numbers that are the sums of those of the lists that are longer by one. -/
namespace Go.Proofs.Ytfopeenjpdaacaa.MRanked
open Go.Proofs.Ytfopeenjpdaacaa.MRank
/-- how many good lists come before p ++ xs among those that begin with p -/
def rk (c : List Nat → Nat) (p : List Nat) : List Nat → Nat
  | [] => 0
  | x :: xs => sm x (fun y => c (p ++ [y])) + rk c (p ++ [x]) xs
/-- the first x whose lists hold the rank r, and the rest of r -/
def pick (c : List Nat → Nat) (p : List Nat) : Nat → Nat → Nat → Nat × Nat
  | 0, x, r => (x, r)
  | f + 1, x, r => if r < c (p ++ [x]) then (x, r) else pick c p f (x + 1) (r - c (p ++ [x]))
def atL (c : List Nat → Nat) (n : Nat) (p : List Nat) : Nat → Nat → List Nat
  | 0, _ => []
  | d + 1, r => (pick c p n 0 r).1 :: atL c n (p ++ [(pick c p n 0 r).1]) d (pick c p n 0 r).2
structure Tree (c : List Nat → Nat) (n : Nat) : Prop where
  sum : ∀ p : List Nat, p.length < n → (∀ x ∈ p, x < n) → c p = sm n (fun x => c (p ++ [x]))
  leaf : ∀ p : List Nat, p.length = n → c p ≤ 1
variable {c : List Nat → Nat} {n : Nat}
theorem pick_spec (p : List Nat) : ∀ f x r, x + f = n → sm x (fun y => c (p ++ [y])) + r < sm n (fun y => c (p ++ [y])) →
    ((pick c p f x r).1 < n ∧ (pick c p f x r).2 < c (p ++ [(pick c p f x r).1]) ∧ sm (pick c p f x r).1 (fun y => c (p ++ [y])) + (pick c p f x r).2 = sm x (fun y => c (p ++ [y])) + r)
  | 0, x, r, h, hr => by
    have : x = n := by omega
    rw [this] at hr; omega
  | f + 1, x, r, h, hr => by
    simp only [pick]
    split
    · exact ⟨by omega, by assumption, rfl⟩
    · have e : sm (x + 1) (fun y => c (p ++ [y])) = sm x (fun y => c (p ++ [y])) + c (p ++ [x]) := rfl
      obtain ⟨a, b, d⟩ := pick_spec p f (x + 1) (r - c (p ++ [x])) (by omega) (by omega)
      exact ⟨a, b, by omega⟩
theorem pick_uniq (p : List Nat) {x y r s : Nat} (hx : r < c (p ++ [x])) (hy : s < c (p ++ [y])) (h : sm x (fun y => c (p ++ [y])) + r = sm y (fun y => c (p ++ [y])) + s) : x = y ∧ r = s := by
  have go : ∀ {x y r s : Nat}, r < c (p ++ [x]) → x < y → sm x (fun y => c (p ++ [y])) + r < sm y (fun y => c (p ++ [y])) + s := by
    intro x y r s hr hlt
    have e : sm (x + 1) (fun y => c (p ++ [y])) = sm x (fun y => c (p ++ [y])) + c (p ++ [x]) := rfl
    have := sm_more (f := fun y => c (p ++ [y])) (m := x + 1) y (by omega)
    omega
  rcases Nat.lt_trichotomy x y with k | k | k
  · have := go (s := s) hx k; omega
  · subst k; exact ⟨rfl, by omega⟩
  · have := go (s := r) hy k; omega
theorem at_spec (T : Tree c n) : ∀ d (p : List Nat) r, p.length + d = n → (∀ x ∈ p, x < n) → r < c p →
    (atL c n p d r).length = d ∧ (∀ x ∈ atL c n p d r, x < n) ∧ c (p ++ atL c n p d r) = 1 ∧ rk c p (atL c n p d r) = r
  | 0, p, r, h, _, hr => by
    have := T.leaf p (by omega)
    exact ⟨rfl, fun x hx => by simp [atL] at hx, by simp only [atL, List.append_nil]; omega, by simp only [atL, rk]; omega⟩
  | d + 1, p, r, h, hp, hr => by
    rw [T.sum p (by omega) hp] at hr
    obtain ⟨a, b, e⟩ := pick_spec (c := c) (n := n) p n 0 r (by omega) (by simpa [sm] using hr)
    obtain ⟨h1, h2, h3, h4⟩ := at_spec T d (p ++ [(pick c p n 0 r).1]) (pick c p n 0 r).2 (by simp; omega) (fun x hx => by
      rcases List.mem_append.1 hx with k | k
      · exact hp x k
      · rw [List.mem_singleton.1 k]; exact a) b
    refine ⟨by simp only [atL, List.length_cons, h1], fun x hx => ?_, ?_, ?_⟩
    · simp only [atL] at hx
      rcases List.mem_cons.1 hx with k | k
      · rw [k]; exact a
      · exact h2 x k
    · simp only [atL]
      rw [List.append_assoc] at h3
      exact h3
    · simp only [atL, rk, h4]
      simpa [sm] using e
theorem rk_lt (T : Tree c n) : ∀ (xs p : List Nat), p.length + xs.length = n → (∀ x ∈ p ++ xs, x < n) → c (p ++ xs) = 1 → rk c p xs < c p
  | [], p, _, _, h => by simp only [List.append_nil] at h; simp only [rk]; omega
  | x :: xs, p, hl, hx, h => by
    have e : p ++ x :: xs = (p ++ [x]) ++ xs := by simp
    have h1 := rk_lt T xs (p ++ [x]) (by simp at hl ⊢; omega) (by rw [← e]; exact hx) (by rw [← e]; exact h)
    have xn : x < n := hx x (by simp)
    rw [T.sum p (by simp at hl; omega) (fun y hy => hx y (List.mem_append_left _ hy))]
    have e2 : sm (x + 1) (fun y => c (p ++ [y])) = sm x (fun y => c (p ++ [y])) + c (p ++ [x]) := rfl
    have := sm_more (f := fun y => c (p ++ [y])) (m := x + 1) n (by omega)
    simp only [rk]; omega
theorem at_rk (T : Tree c n) : ∀ (xs p : List Nat), p.length + xs.length = n → (∀ x ∈ p ++ xs, x < n) → c (p ++ xs) = 1 → atL c n p xs.length (rk c p xs) = xs
  | [], _, _, _, _ => rfl
  | x :: xs, p, hl, hx, h => by
    have e : p ++ x :: xs = (p ++ [x]) ++ xs := by simp
    have h1 := rk_lt T xs (p ++ [x]) (by simp at hl ⊢; omega) (by rw [← e]; exact hx) (by rw [← e]; exact h)
    have h0 := rk_lt T (x :: xs) p hl hx h
    rw [T.sum p (by simp at hl; omega) (fun y hy => hx y (List.mem_append_left _ hy))] at h0
    obtain ⟨a, b, d⟩ := pick_spec (c := c) (n := n) p n 0 (rk c p (x :: xs)) (by omega) (by simpa [sm] using h0)
    have d' : sm (pick c p n 0 (rk c p (x :: xs))).1 (fun y => c (p ++ [y])) + (pick c p n 0 (rk c p (x :: xs))).2 = sm x (fun y => c (p ++ [y])) + rk c (p ++ [x]) xs := by simpa [sm, rk] using d
    obtain ⟨u, v⟩ := pick_uniq p b h1 d'
    simp only [List.length_cons, atL]
    rw [u, v, at_rk T xs (p ++ [x]) (by simp at hl ⊢; omega) (by rw [← e]; exact hx) (by rw [← e]; exact h)]
theorem rk_less (T : Tree c n) : ∀ (xs ys p : List Nat), p.length + xs.length = n → xs.length = ys.length → (∀ x ∈ p ++ xs, x < n) → (∀ x ∈ p ++ ys, x < n) → c (p ++ xs) = 1 → c (p ++ ys) = 1 →
    ∀ i, i < xs.length → (∀ j, j < i → xs.getD j 0 = ys.getD j 0) → xs.getD i 0 < ys.getD i 0 → rk c p xs < rk c p ys
  | [], _, _, _, _, _, _, _, _, i, hi, _, _ => by simp at hi
  | x :: xs, [], _, _, hl, _, _, _, _, _, _, _, _ => by simp at hl
  | x :: xs, y :: ys, p, hn, hl, hx, hy, h, h', i, hi, hj, hlt => by
    have e : p ++ x :: xs = (p ++ [x]) ++ xs := by simp
    have e' : p ++ y :: ys = (p ++ [y]) ++ ys := by simp
    simp only [rk]
    match i with
    | 0 =>
      have h1 := rk_lt T xs (p ++ [x]) (by simp at hn ⊢; omega) (by rw [← e]; exact hx) (by rw [← e]; exact h)
      have e2 : sm (x + 1) (fun y => c (p ++ [y])) = sm x (fun y => c (p ++ [y])) + c (p ++ [x]) := rfl
      have hxy : x < y := by simpa using hlt
      have := sm_more (f := fun y => c (p ++ [y])) (m := x + 1) y (by omega)
      omega
    | i + 1 =>
      have h0 : x = y := by simpa using hj 0 (by omega)
      subst h0
      have := rk_less T xs ys (p ++ [x]) (by simp at hn ⊢; omega) (by simpa using hl) (by rw [← e]; exact hx) (by rw [← e']; exact hy) (by rw [← e]; exact h) (by rw [← e']; exact h') i (by simpa using hi)
        (fun j hj' => by simpa using hj (j + 1) (by omega)) (by simpa using hlt)
      omega
/-- how many good lists of n wishes begin with p -/
def gof (n : Nat) (p : List Nat) : Nat → Nat := fun d => p.countP (fun x => decide (n ≤ x + d))
def cnt (n : Nat) (p : List Nat) : Nat := E (gof n p) n (n - p.length)
theorem gof_add (n : Nat) (p : List Nat) (x : Nat) (hx : x < n) : gof n (p ++ [x]) = up (gof n p) (n - x) := by
  funext d
  simp only [gof, up, List.countP_append, List.countP_singleton]
  congr 1
  by_cases h : n ≤ x + d
  · rw [if_pos (by simpa using h), if_pos (by omega)]
  · rw [if_neg (by simpa using h), if_neg (by omega)]
theorem sm_rev (f : Nat → Nat) : ∀ n, sm n (fun i => f (n - 1 - i)) = sm n f
  | 0 => rfl
  | n + 1 => by
    rw [sm_front]
    simp only [sm]
    have e := sm_rev f n
    rw [sm_congr n (g := fun i => f (n - 1 - i)) (fun i hi => by congr 1; omega), e]
    simp [Nat.add_comm]
theorem E_leaf (g : Nat → Nat) : ∀ d, E g d 0 = if (∀ e, e < d → g e ≤ e) then 1 else 0
  | 0 => by simp [E]
  | d + 1 => by
    simp only [E, sm, C, Nat.zero_add, Nat.add_zero, Nat.one_mul]
    rw [E_leaf g d]
    by_cases h : ∀ e, e < d + 1 → g e ≤ e
    · rw [if_pos h, if_pos (h d (by omega)), if_pos (fun e he => h e (by omega))]
    · rw [if_neg h]
      split
      · rw [if_neg (fun k => h (fun e he => by
          by_cases q : e = d
          · subst q; assumption
          · exact k e (by omega)))]
      · rfl
theorem cnt_tree (n : Nat) : Tree (cnt n) n where
  sum := fun p hl hp => by
    unfold cnt
    rw [show n - p.length = (n - p.length - 1) + 1 by omega, E_one, ← sm_rev]
    refine sm_congr n (fun i hi => ?_)
    rw [gof_add n p i hi, List.length_append, List.length_singleton]
    rw [show n - 1 - i + 1 = n - i by omega, show n - (p.length + 1) = n - p.length - 1 by omega]
  leaf := fun p hl => by
    unfold cnt
    rw [hl, Nat.sub_self, E_leaf]
    split <;> omega
theorem cnt_good (n : Nat) (p : List Nat) (hl : p.length = n) : cnt n p = 1 ↔ ∀ d, d < n → gof n p d ≤ d := by
  unfold cnt
  rw [hl, Nat.sub_self, E_leaf]
  split <;> simp_all
end Go.Proofs.Ytfopeenjpdaacaa.MRanked
end
section
namespace Go.Proofs.Ytfopeenjpdaacaa.PC
open Go.RowKit Go.Proofs.YtfopeenjpdaacaaW.PrintWords Go.Proofs.YtfopeenjpdaacaaW.PrintLast Go.Proofs.YtfopeenjpdaacaaW.PrintMore
attribute [local go_sem] max2_int min2_int max_two min_two max_three min_three max_four min_four   -- for this text's walks alone
set_option linter.unusedVariables false
set_option linter.unusedSimpArgs false
end Go.Proofs.Ytfopeenjpdaacaa.PC
end
section
namespace Go.Proofs.Ytfopeenjpdaacaa.PC
open Go.RowKit Go.Proofs.YtfopeenjpdaacaaW.PrintWords Go.Proofs.YtfopeenjpdaacaaW.PrintLast Go.Proofs.YtfopeenjpdaacaaW.PrintMore
attribute [local go_sem] max2_int min2_int max_two min_two max_three min_three max_four min_four   -- for this text's walks alone
set_option linter.unusedVariables false
set_option linter.unusedSimpArgs false
end Go.Proofs.Ytfopeenjpdaacaa.PC
end
section
/- How many lists go on from some wishes: the program's number and the specification's are the plain one. -/
namespace Go.Proofs.Ytfopeenjpdaacaa.L
open Go.RowKit Go.Proofs.Ytfopeenjpdaacaa.PC Go.Proofs.YtfopeenjpdaacaaW.PrintWords Go.Proofs.YtfopeenjpdaacaaW.PrintLast Go.Proofs.Ytfopeenjpdaacaa.MRank Go.Proofs.Ytfopeenjpdaacaa.MRanked
set_option maxRecDepth 100000
/-- a row of these numbers -/
def prow : Nat → List Nat
  | 0 => [1]
  | n + 1 => List.zipWith (· + ·) (0 :: prow n) (prow n ++ [0])
theorem prow_len : ∀ n, (prow n).length = n + 1
  | 0 => rfl
  | n + 1 => by simp [prow, prow_len n]
theorem C_row : ∀ n k, C n k = (prow n).getD k 0
  | 0, 0 => rfl
  | 0, k + 1 => by simp [C, prow]
  | n + 1, 0 => by
    have h := C_row n 0
    rw [C_zero] at h ⊢
    have hl := prow_len n
    cases hp : prow n with
    | nil => rw [hp] at hl; simp at hl
    | cons a t => rw [hp] at h; simp [prow, hp] at h ⊢; exact h
  | n + 1, k + 1 => by
    have h1 := C_row n k
    have h2 := C_row n (k + 1)
    have hl := prow_len n
    simp only [C, h1, h2, prow, List.getD_eq_getElem?_getD, List.getElem?_zipWith, List.getElem?_cons_succ, List.getElem?_append]
    by_cases c1 : k + 1 < (prow n).length
    · rw [if_pos c1]; simp [show k < (prow n).length by omega, c1]
    · rw [if_neg c1]
      by_cases c2 : k < (prow n).length
      · have : k + 1 - (prow n).length = 0 := by omega
        rw [List.getElem?_eq_none (show (prow n).length ≤ k + 1 by omega)]
        simp [c2, this]
      · simp [List.getElem?_eq_none (show (prow n).length ≤ k by omega), List.getElem?_eq_none (show (prow n).length ≤ k + 1 by omega)]
theorem choose_p0 : ∀ n : Nat, n < 17 → ∀ k : Nat, k ≤ n → chairs_choose.f 20 (n : Int) (k : Int) = some (((prow n).getD k 0 : Nat) : Int) := by decide +kernel
theorem row_sym : ∀ n : Nat, n < 17 → ∀ k : Nat, k ≤ n → (prow n).getD (n - k) 0 = (prow n).getD k 0 := by decide +kernel
theorem wsub {r k : Nat} (h : k ≤ r) (hr : r ≤ 1000000) : wrap64 ((r : Int) - (k : Int)) = ((r - k : Nat) : Int) := by rw [w64 (by omega) (by omega)]; omega
theorem wadd {a b : Nat} (h : a + b ≤ 1000000) : wrap64 ((a : Int) + (b : Int)) = ((a + b : Nat) : Int) := by rw [w64 (by omega) (by omega)]; rfl
theorem w1 {a : Nat} (h : a ≤ 1000000) : wrap64 ((a : Int) + 1) = ((a + 1 : Nat) : Int) := by rw [w64 (by omega) (by omega)]; rfl
theorem choose_p (n : Nat) (hn : n < 17) (k : Nat) (hk : k ≤ n) : chairs_choose.f 20 (n : Int) (k : Int) = some ((C n k : Nat) : Int) := by rw [C_row]; exact choose_p0 n hn k hk
theorem C_sym (n : Nat) (hn : n < 17) (k : Nat) (hk : k ≤ n) : C n (n - k) = C n k := by rw [C_row, C_row]; exact row_sym n hn k hk
theorem chooseP_ev {n k : Nat} (hn : n ≤ 16) (hk : k ≤ n) : Ev (fun q => chairs_choose.f q (n : Int) (k : Int)) ((C n k : Nat) : Int) := Ev.of (chairs_choose.mono _ _) (choose_p n (by omega) k hk)
/-- a table of numbers -/
def tabL (L : Nat) (F : Nat → Nat) : List Int := (List.range (L + 1)).map fun t => ((F t : Nat) : Int)
theorem tab_len (L : Nat) (F : Nat → Nat) : (tabL L F).length = L + 1 := by simp [tabL]
theorem tab_rd {L : Nat} {F : Nat → Nat} {t : Nat} (h : t ≤ L) : rd (tabL L F) (t : Int) = ((F t : Nat) : Int) := by
  simp [rd, tabL, List.getD_eq_getElem?_getD, List.getElem?_range, show t < L + 1 by omega]
theorem tab_congr {L : Nat} {F G : Nat → Nat} (h : ∀ t, t ≤ L → F t = G t) : tabL L F = tabL L G := by
  unfold tabL
  refine List.map_congr_left (fun t ht => ?_)
  rw [h t (by have := List.mem_range.1 ht; omega)]
theorem tab_set {L : Nat} {F : Nat → Nat} {t v : Nat} (h : t ≤ L) : (tabL L F).set t ((v : Nat) : Int) = tabL L (fun i => if i = t then v else F i) := by
  apply List.ext_getElem?
  intro i
  simp only [tabL, List.getElem?_set, List.length_map, List.length_range, List.getElem?_map, List.getElem?_range]
  by_cases e : t = i
  · subst e
    simp [show t < L + 1 by omega]
  · rw [if_neg e]
    by_cases k : i < L + 1
    · simp [k, show i ≠ t by omega]
    · simp [List.getElem?_range, k]
theorem tab_zero (L : Nat) : List.replicate (L + 1) (0 : Int) = tabL L (fun _ => 0) := by
  apply List.ext_getElem?
  intro i
  simp only [tabL, List.getElem?_replicate, List.getElem?_map]
  by_cases k : i < L + 1
  · simp [k]
  · simp [List.getElem?_range, k]
/-- the new row, r of the old one and k of its choices on -/
def P (g : Nat → Nat) (d : Nat) (F : Nat → Nat) (r k m : Nat) : Nat := if g d + m ≤ d then sm r (fun q => F q * C q m) + (if r < m + k ∧ m ≤ r then F r * C r m else 0) else 0
section
variable {n L c d cm : Nat} {g F : Nat → Nat} {H : List Int} {res : Int}
end
/-- how many of the wishes are below c -/
def bl (p : List Nat) (c : Nat) : Nat := p.countP fun x => decide (x < c)
theorem bl_gof (n : Nat) (p : List Nat) (c : Nat) (hc : c ≤ n) : bl p c + gof n p (n - c) = p.length := by
  unfold bl gof
  induction p with
  | nil => rfl
  | cons x p ih =>
    rw [List.countP_cons, List.countP_cons, List.length_cons]
    by_cases h : x < c
    · rw [if_pos (by simpa using h), if_neg (by simp; omega)]; omega
    · rw [if_neg (by simpa using h), if_pos (by simp; omega)]; omega
theorem pow_small : ∀ c : Nat, c < 17 → ∀ L : Nat, L < 16 → (c + 1) ^ L ≤ 2862423051509815793 := by decide +kernel
theorem Fw_small (g : Nat → Nat) {n L c r : Nat} (hc : c ≤ 16) (hL : L ≤ 15) (hr : r ≤ L) : Fw g n L c r ≤ 9000000000000000000 := by
  have h1 := Fw_le g n L c r hr
  have h2 := pow_small c (by omega) L (by omega)
  omega
end Go.Proofs.Ytfopeenjpdaacaa.L
end
section
/- The program's number of lists that go on from some wishes is the plain one. -/
namespace Go.Proofs.Ytfopeenjpdaacaa.L
open Go.RowKit Go.Proofs.Ytfopeenjpdaacaa.PC Go.Proofs.YtfopeenjpdaacaaW.PrintWords Go.Proofs.YtfopeenjpdaacaaW.PrintLast Go.Proofs.Ytfopeenjpdaacaa.MRank Go.Proofs.Ytfopeenjpdaacaa.MRanked
/-- the new table, u of the old one and k of its choices on -/
def Q (g : Nat → Nat) (L d : Nat) (F : Nat → Nat) (u k t : Nat) : Nat :=
  if g d + (L - t) ≤ d then sm u (fun q => F (L - q) * C (L - q) (L - t)) + (if u ≤ t ∧ t < u + k then F (L - u) * C (L - u) (L - t) else 0) else 0
theorem Q_end {g : Nat → Nat} {L d : Nat} {F : Nat → Nat} {u t : Nat} (hu : u ≤ L) (ht : t ≤ L) : Q g L d F u (L - u + 1) t = Q g L d F (u + 1) 0 t := by
  unfold Q
  split
  · simp only [sm]
    rw [if_neg (show ¬ (u + 1 ≤ t ∧ t < u + 1 + 0) by omega)]
    by_cases h : u ≤ t
    · rw [if_pos ⟨h, by omega⟩]; omega
    · rw [if_neg (by omega), C_gt (L - u) (L - t) (by omega)]; omega
  · rfl
theorem Q_none {g : Nat → Nat} {L d : Nat} {F : Nat → Nat} {u t : Nat} (h0 : F (L - u) = 0) : Q g L d F u 0 t = Q g L d F (u + 1) 0 t := by
  unfold Q
  split
  · simp only [sm]
    rw [if_neg (show ¬ (u + 1 ≤ t ∧ t < u + 1 + 0) by omega), if_neg (by omega), h0]; omega
  · rfl
theorem Q_le {g : Nat → Nat} {L d : Nat} {F : Nat → Nat} {u k t : Nat} (hu : u ≤ L) : Q g L d F u k t ≤ fw g L d F (L - t) := by
  unfold Q fw
  split
  · have h1 := sm_rev (fun r => F r * C r (L - t)) (L + 1)
    rw [sm_congr (L + 1) (g := fun q => F (L - q) * C (L - q) (L - t)) (fun i _ => by rw [show L + 1 - 1 - i = L - i by omega])] at h1
    have h2 := sm_more (f := fun q => F (L - q) * C (L - q) (L - t)) (m := u + 1) (L + 1) (by omega)
    simp only [sm] at h1 h2 ⊢
    split <;> omega
  · exact Nat.le_refl _
theorem Q_all (g : Nat → Nat) (L d : Nat) (F : Nat → Nat) (t : Nat) : Q g L d F (L + 1) 0 t = fw g L d F (L - t) := by
  unfold Q fw
  split
  · have h1 := sm_rev (fun r => F r * C r (L - t)) (L + 1)
    rw [sm_congr (L + 1) (g := fun q => F (L - q) * C (L - q) (L - t)) (fun i _ => by rw [show L + 1 - 1 - i = L - i by omega])] at h1
    rw [if_neg (by omega), h1]; omega
  · rfl
section
variable {n L c d cm : Nat} {g F : Nat → Nat} {p : List Nat} {res : Int}
theorem ways_l4 (hn : n ≤ 16) (hL : L ≤ 15) (hc : c < n) (hd : d + c + 1 = n) (hcm : bl p (c + 1) + L + g d = n) (hb : ∀ m, m ≤ L → fw g L d F m ≤ 9000000000000000000) (u : Nat) (hu : u ≤ L) (hF : 1 ≤ F (L - u))
    (h : Ev (fun q => chairs_ways.l3 q (n : Int) (tabL n (bl p)) (L : Int) ((c + 1 : Nat) : Int) (tabL L (Q g L d F (u + 1) 0)) (tabL L fun t => F (L - t)) ((L : Int) + 1) ((u + 1 : Nat) : Int)) res) :
    ∀ e k, k + e = L - u + 1 → Ev (fun q => chairs_ways.l4 q (n : Int) (tabL n (bl p)) (L : Int) ((c + 1 : Nat) : Int) (tabL L (Q g L d F u k)) (u : Int) ((F (L - u) : Nat) : Int) (k : Int) (tabL L fun t => F (L - t)) ((L : Int) + 1) (u : Int)) res := by
  intro e
  induction e with
  | zero =>
    intro k hk
    obtain rfl : k = L - u + 1 := by omega
    rw [tab_congr (fun t ht => Q_end hu ht)]
    refine Ev.step (f := fun q => chairs_ways.j5 q (n : Int) (tabL n (bl p)) (L : Int) ((c + 1 : Nat) : Int) (tabL L (Q g L d F (u + 1) 0)) (u : Int) ((F (L - u) : Nat) : Int) ((L - u + 1 : Nat) : Int) (tabL L fun t => F (L - t)) ((L : Int) + 1) (u : Int) false) (fun q => ?_) (Ev.step (fun q => ?_) h)
    · simp only [chairs_ways.l4, wadd (show u + (L - u + 1) ≤ 1000000 by omega)]
      rw [if_pos (by omega), decide_eq_false (by omega)]
    · simp only [chairs_ways.j5, w1 (show u ≤ 1000000 by omega), Bool.false_eq_true, if_false]
  | succ e ih =>
    intro k hk
    have hi := ih (k + 1) (by omega)
    refine Ev.step (f := fun q => chairs_ways.j5 q (n : Int) (tabL n (bl p)) (L : Int) ((c + 1 : Nat) : Int) (tabL L (Q g L d F u k)) (u : Int) ((F (L - u) : Nat) : Int) (k : Int) (tabL L fun t => F (L - t)) ((L : Int) + 1) (u : Int) true) (fun q => ?_) ?_
    · simp only [chairs_ways.l4, wadd (show u + k ≤ 1000000 by omega)]
      rw [if_pos (by omega), decide_eq_true (by omega)]
    by_cases cond : g d + (L - (u + k)) ≤ d
    · have hP : ∀ t, t ≤ L → (if t = u + k then Q g L d F u k (u + k) + F (L - u) * C (L - u) k else Q g L d F u k t) = Q g L d F u (k + 1) t := by
        intro t ht
        by_cases et : t = u + k
        · subst et
          rw [if_pos rfl]
          unfold Q
          rw [if_pos cond, if_pos cond, if_neg (by omega), if_pos (by omega), show L - (u + k) = L - u - k by omega, C_sym (L - u) (by omega) k (by omega)]; omega
        · rw [if_neg et]
          unfold Q
          split
          · by_cases q1 : u ≤ t ∧ t < u + k
            · rw [if_pos q1, if_pos (by omega)]
            · rw [if_neg q1, if_neg (by omega)]
          · rfl
      have hle : Q g L d F u k (u + k) + F (L - u) * C (L - u) k ≤ 9000000000000000000 := by
        have h1 := hP (u + k) (by omega)
        rw [if_pos rfl] at h1
        rw [h1]
        exact Nat.le_trans (Q_le hu) (hb _ (by omega))
      refine Ev.step (f := fun q => (chairs_choose.f q ((L - u : Nat) : Int) (k : Int)).bind fun t => chairs_ways.l4 q (n : Int) (tabL n (bl p)) (L : Int) ((c + 1 : Nat) : Int) ((tabL L (Q g L d F u k)).set (u + k) (wrap64 (((Q g L d F u k (u + k) : Nat) : Int) + wrap64 (((F (L - u) : Nat) : Int) * t)))) (u : Int) ((F (L - u) : Nat) : Int) ((k + 1 : Nat) : Int) (tabL L fun t => F (L - t)) ((L : Int) + 1) (u : Int)) (fun q => ?_) (Ev.bind (chooseP_ev (by omega) (by omega)) ?_)
      · simp only [chairs_ways.j5, if_true]
        rw [if_pos (by omega), if_pos (by rw [tab_len]; omega), tab_rd (by omega), wadd (show bl p (c + 1) + u ≤ 1000000 by omega), wadd (show bl p (c + 1) + u + k ≤ 1000000 by omega), wadd (show u + k ≤ 1000000 by omega), wsub hu (by omega), w1 (show k ≤ 1000000 by omega),
          if_pos (by omega), if_pos (by omega), if_pos (by rw [tab_len]; omega), tab_rd (by omega), Int.toNat_natCast]
      · have e6 : ((F (L - u) : Nat) : Int) * ((C (L - u) k : Nat) : Int) = ((F (L - u) * C (L - u) k : Nat) : Int) := (Int.natCast_mul _ _).symm
        rw [e6, w64 (x := ((F (L - u) * C (L - u) k : Nat) : Int)) (by omega) (by omega), w64 (by omega) (by omega), ← Int.natCast_add, tab_set (by omega), tab_congr hP]
        exact hi
    · have hP : tabL L (Q g L d F u k) = tabL L (Q g L d F u (k + 1)) := by
        refine tab_congr (fun t ht => ?_)
        unfold Q
        split
        · by_cases q1 : u ≤ t ∧ t < u + k
          · rw [if_pos q1, if_pos (by omega)]
          · rw [if_neg q1, if_neg (fun q2 => by
              have : t = u + k := by omega
              subst this; exact cond (by assumption))]
        · rfl
      rw [hP]
      refine Ev.step (fun q => ?_) hi
      simp only [chairs_ways.j5, if_true]
      rw [if_pos (by omega), if_pos (by rw [tab_len]; omega), tab_rd (by omega), wadd (show bl p (c + 1) + u ≤ 1000000 by omega), wadd (show bl p (c + 1) + u + k ≤ 1000000 by omega), w1 (show k ≤ 1000000 by omega), if_neg (by omega)]
theorem ways_l3 (hn : n ≤ 16) (hL : L ≤ 15) (hc : c < n) (hd : d + c + 1 = n) (hcm : bl p (c + 1) + L + g d = n) (hb : ∀ m, m ≤ L → fw g L d F m ≤ 9000000000000000000)
    (h : Ev (fun q => chairs_ways.l2 q (n : Int) (tabL n (bl p)) (L : Int) (tabL L fun t => fw g L d F (L - t)) ((c + 1 + 1 : Nat) : Int)) res) :
    ∀ e u, u + e = L + 1 → Ev (fun q => chairs_ways.l3 q (n : Int) (tabL n (bl p)) (L : Int) ((c + 1 : Nat) : Int) (tabL L (Q g L d F u 0)) (tabL L fun t => F (L - t)) ((L : Int) + 1) (u : Int)) res := by
  intro e
  induction e with
  | zero =>
    intro u hu
    obtain rfl : u = L + 1 := by omega
    rw [tab_congr (fun t _ => Q_all g L d F t)]
    refine Ev.step (fun q => ?_) h
    simp only [chairs_ways.l3, w1 (show c + 1 ≤ 1000000 by omega)]
    rw [if_neg (by omega)]
  | succ e ih =>
    intro u hu
    have hi := ih (u + 1) (by omega)
    by_cases hF : 1 ≤ F (L - u)
    · refine Ev.step (fun q => ?_) (ways_l4 hn hL hc hd hcm hb u (by omega) hF hi (L - u + 1) 0 (by omega))
      simp only [chairs_ways.l3]
      rw [if_pos (by omega), if_pos (by omega), if_pos (by rw [tab_len]; omega), tab_rd (F := fun t => F (L - t)) (by omega)]
      rfl
    · have h0 : F (L - u) = 0 := by omega
      rw [tab_congr (fun t _ => Q_none h0)]
      refine Ev.step (f := fun q => chairs_ways.l4 q (n : Int) (tabL n (bl p)) (L : Int) ((c + 1 : Nat) : Int) (tabL L (Q g L d F (u + 1) 0)) (u : Int) 0 0 (tabL L fun t => F (L - t)) ((L : Int) + 1) (u : Int)) (fun q => ?_) (Ev.step (f := fun q => chairs_ways.j5 q (n : Int) (tabL n (bl p)) (L : Int) ((c + 1 : Nat) : Int) (tabL L (Q g L d F (u + 1) 0)) (u : Int) 0 0 (tabL L fun t => F (L - t)) ((L : Int) + 1) (u : Int) false) (fun q => ?_) (Ev.step (fun q => ?_) hi))
      · simp only [chairs_ways.l3]
        rw [if_pos (by omega), if_pos (by omega), if_pos (by rw [tab_len]; omega), tab_rd (F := fun t => F (L - t)) (by omega), h0]
        rfl
      · simp only [chairs_ways.l4]
        rw [if_neg (by omega)]
      · simp only [chairs_ways.j5, w1 (show u ≤ 1000000 by omega), Bool.false_eq_true, if_false]
end
theorem ways_l2 {n L : Nat} {p : List Nat} (hn : n ≤ 16) (hL : L ≤ 15) (hp : p.length + L = n) :
    ∀ e c, c + e = n → Ev (fun q => chairs_ways.l2 q (n : Int) (tabL n (bl p)) (L : Int) (tabL L fun t => Fw (gof n p) n L c (L - t)) ((c + 1 : Nat) : Int)) ((cnt n p : Nat) : Int) := by
  intro e
  induction e with
  | zero =>
    intro c hc
    obtain rfl : c = n := by omega
    have h0 : Fw (gof c p) c L c 0 = cnt c p := by
      rw [Fw_end]; unfold cnt; congr 1; omega
    refine Ev.step (f := fun _ => some (((cnt c p : Nat) : Int))) (fun q => ?_) (Ev.now _)
    simp only [chairs_ways.l2]
    rw [if_neg (by omega), if_pos (by omega), if_pos (by rw [tab_len]; omega), tab_rd (by omega), Nat.sub_self, h0]
  | succ e ih =>
    intro c hc
    have hi := ih (c + 1) (by omega)
    have hg := bl_gof n p (c + 1) (by omega)
    have hb : ∀ m, m ≤ L → fw (gof n p) L (n - c - 1) (Fw (gof n p) n L c) m ≤ 9000000000000000000 := fun m hm => Fw_small (gof n p) (n := n) (L := L) (c := c + 1) (r := m) (by omega) hL hm
    have h2 := ways_l3 (n := n) (L := L) (c := c) (d := n - c - 1) (g := gof n p) (F := Fw (gof n p) n L c) (p := p) hn hL (by omega) (by omega)
      (by rw [show n - (c + 1) = n - c - 1 by omega] at hg; omega) hb hi (L + 1) 0 (by omega)
    have hz : tabL L (Q (gof n p) L (n - c - 1) (Fw (gof n p) n L c) 0 0) = List.replicate (L + 1) (0 : Int) := by
      rw [tab_zero]
      refine tab_congr (fun t _ => ?_)
      unfold Q
      split
      · rw [if_neg (by omega)]; rfl
      · rfl
    rw [hz] at h2
    refine Ev.step (fun q => ?_) h2
    simp only [chairs_ways.l2, w1 (show L ≤ 1000000 by omega), Int.toNat_natCast]
    rw [if_pos (by omega), if_pos (by omega), if_pos (by omega), tab_len]
    rfl
theorem bl_app (p : List Nat) (w t : Nat) : bl (p ++ [w]) t = bl p t + if w < t then 1 else 0 := by
  unfold bl
  rw [List.countP_append, List.countP_singleton]
  by_cases h : w < t <;> simp [h]
theorem ways_l1 {n : Nat} {l : List Int} {res : Int} (hn : n ≤ 16) (p : List Nat) (hp : p.length ≤ 16) (w i : Nat) (hw : w < n) (hi : i ≤ 1000)
    (h : Ev (fun q => chairs_ways.l0 q (n : Int) l (tabL n (bl (p ++ [w]))) l (l.length : Int) ((i + 1 : Nat) : Int)) res) :
    ∀ e j, j + e = n + 1 → w + 1 ≤ j → Ev (fun q => chairs_ways.l1 q (n : Int) l (tabL n (fun t => bl p t + if w < t ∧ t < j then 1 else 0)) (j : Int) l (l.length : Int) (i : Int)) res := by
  intro e
  induction e with
  | zero =>
    intro j hj hw1
    obtain rfl : j = n + 1 := by omega
    have : tabL n (fun t => bl p t + if w < t ∧ t < n + 1 then 1 else 0) = tabL n (bl (p ++ [w])) := tab_congr (fun t ht => by
      rw [bl_app]
      by_cases q : w < t
      · rw [if_pos ⟨q, by omega⟩, if_pos q]
      · rw [if_neg (by omega), if_neg q])
    rw [this]
    refine Ev.step (fun q => ?_) h
    simp only [chairs_ways.l1, w1 (show i ≤ 1000000 by omega)]
    rw [if_neg (by omega)]
  | succ e ih =>
    intro j hj hw1
    have h1 := ih (j + 1) (by omega) (by omega)
    have hle : bl p j ≤ p.length := List.countP_le_length
    refine Ev.step (fun q => ?_) h1
    simp only [chairs_ways.l1, w1 (show j ≤ 1000000 by omega)]
    rw [if_pos (by omega), if_pos (by omega), if_pos (by rw [tab_len]; omega), tab_rd (by omega), Int.toNat_natCast, if_neg (show ¬ (w < j ∧ j < j) by omega), Nat.add_zero, w1 (show bl p j ≤ 1000000 by omega), tab_set (by omega)]
    congr 1
    refine tab_congr (fun t ht => ?_)
    by_cases et : t = j
    · subst et; rw [if_pos rfl, if_pos (by omega)]
    · rw [if_neg et]
      congr 1
      by_cases q1 : w < t ∧ t < j
      · rw [if_pos q1, if_pos (by omega)]
      · rw [if_neg q1, if_neg (by omega)]
theorem ways_l0 {n : Nat} {l : List Int} (hn : n ≤ 16) (hl : 1 ≤ l.length) (hln : l.length ≤ n) (hw : ∀ x ∈ l, 0 ≤ x ∧ x < (n : Int)) :
    ∀ e i, i + e = l.length → Ev (fun q => chairs_ways.l0 q (n : Int) l (tabL n (bl ((l.take i).map Int.toNat))) l (l.length : Int) (i : Int)) ((cnt n (l.map Int.toNat) : Nat) : Int) := by
  intro e
  induction e with
  | zero =>
    intro i hi
    obtain rfl : i = l.length := by omega
    rw [List.take_length]
    have h := ways_l2 (n := n) (L := n - l.length) (p := l.map Int.toNat) hn (by omega) (by simp; omega) n 0 (by omega)
    refine Ev.step (fun q => ?_) h
    simp only [chairs_ways.l0, wsub (show l.length ≤ n by omega) (show n ≤ 1000000 by omega), w1 (show n - l.length ≤ 1000000 by omega), Option.bind_some, Int.toNat_natCast]
    rw [if_neg (by omega), if_pos (by omega), if_pos (by omega), if_pos (by rw [List.length_replicate]; omega)]
    congr 1
    rw [tab_zero, show (1 : Int) = ((1 : Nat) : Int) by rfl, show (0 : Int).toNat = 0 by rfl, tab_set (by omega)]
    refine tab_congr (fun t ht => ?_)
    simp only [Fw]
    by_cases q : t = 0
    · rw [if_pos q, if_pos (by omega)]
    · rw [if_neg q, if_neg (by omega)]
  | succ e ih =>
    intro i hi
    have h := ih (i + 1) (by omega)
    have hm := hw _ (rd_mem l i (by omega))
    have et : (l.take (i + 1)).map Int.toNat = (l.take i).map Int.toNat ++ [(rd l (i : Int)).toNat] := by
      rw [List.take_succ_eq_append_getElem (by omega), List.map_append]; congr 1; simp [rd, List.getD_eq_getElem?_getD, show i < l.length by omega]
    rw [et] at h
    obtain ⟨v, hv⟩ : ∃ v : Nat, rd l (i : Int) = (v : Int) := ⟨(rd l (i : Int)).toNat, by omega⟩
    rw [hv, Int.toNat_natCast] at h
    rw [hv] at hm
    refine Ev.step (fun q => ?_) (ways_l1 (n := n) hn ((l.take i).map Int.toNat) (by rw [List.length_map, List.length_take]; omega) v i (by omega) (by omega) h (n - v) (v + 1) (by omega) (Nat.le_refl _))
    simp only [chairs_ways.l0]
    rw [if_pos (by omega), if_pos (by omega), if_pos (by omega), hv, w1 (show v ≤ 1000000 by omega)]
    congr 1
    refine tab_congr (fun t ht => ?_)
    rw [if_neg (by omega)]; rfl
theorem ways_ev {n : Nat} {l : List Int} (hn : n ≤ 16) (hl : 1 ≤ l.length) (hln : l.length ≤ n) (hw : ∀ x ∈ l, 0 ≤ x ∧ x < (n : Int)) :
    Ev (fun q => chairs_ways.f q (n : Int) l) ((cnt n (l.map Int.toNat) : Nat) : Int) := by
  refine Ev.congr (fun q => ?_) (ways_l0 hn hl hln hw l.length 0 (by omega))
  unfold chairs_ways.f
  rw [w1 (show n ≤ 1000000 by omega), if_pos (by omega), if_pos (by omega), Int.toNat_natCast, tab_zero]
  congr 1
end Go.Proofs.Ytfopeenjpdaacaa.L
end
section
/- How many good lists of n wishes there are, for n up to 16. -/
namespace Go.Proofs.Ytfopeenjpdaacaa.MTotal
open Go.Proofs.Ytfopeenjpdaacaa.MRank Go.Proofs.Ytfopeenjpdaacaa.MRanked
def prow : Nat → List Nat
  | 0 => [1]
  | n + 1 => List.zipWith (· + ·) (0 :: prow n) (prow n ++ [0])
theorem prow_len : ∀ n, (prow n).length = n + 1
  | 0 => rfl
  | n + 1 => by simp [prow, prow_len n]
theorem C_row : ∀ n k, C n k = (prow n).getD k 0
  | 0, 0 => rfl
  | 0, k + 1 => by simp [C, prow]
  | n + 1, 0 => by
    have h := C_row n 0
    rw [C_zero] at h ⊢
    have hl := prow_len n
    cases hp : prow n with
    | nil => rw [hp] at hl; simp at hl
    | cons a t => rw [hp] at h; simp [prow, hp] at h ⊢; exact h
  | n + 1, k + 1 => by
    have h1 := C_row n k
    have h2 := C_row n (k + 1)
    have hl := prow_len n
    simp only [C, h1, h2, prow, List.getD_eq_getElem?_getD, List.getElem?_zipWith, List.getElem?_cons_succ, List.getElem?_append]
    by_cases c1 : k + 1 < (prow n).length
    · rw [if_pos c1]; simp [show k < (prow n).length by omega, c1]
    · rw [if_neg c1]
      by_cases c2 : k < (prow n).length
      · have : k + 1 - (prow n).length = 0 := by omega
        rw [List.getElem?_eq_none (show (prow n).length ≤ k + 1 by omega)]
        simp [c2, this]
      · simp [List.getElem?_eq_none (show (prow n).length ≤ k by omega), List.getElem?_eq_none (show (prow n).length ≤ k + 1 by omega)]
def ssum (f : Nat → Nat) (n : Nat) : Nat := ((List.range n).map f).sum
theorem ssum_sm (f : Nat → Nat) : ∀ n, ssum f n = sm n f
  | 0 => rfl
  | n + 1 => by
    have := ssum_sm f n
    unfold ssum at this ⊢
    rw [List.range_succ, List.map_append, List.sum_append, this]
    simp [sm]
/-- one row on, as a list -/
def fwl (pr : List (List Nat)) (L d : Nat) (now : List Nat) : List Nat := (List.range (L + 1)).map fun m => if m ≤ d then ssum (fun r => now.getD r 0 * (pr.getD r []).getD m 0) (L + 1) else 0
def all (pr : List (List Nat)) (n L : Nat) : Nat → List Nat
  | 0 => (List.range (L + 1)).map fun r => if r = L then 1 else 0
  | c + 1 => fwl pr L (n - c - 1) (all pr n L c)
theorem all_at (n L : Nat) : ∀ c m, m ≤ L → (all ((List.range (L + 1)).map prow) n L c).getD m 0 = Fw (fun _ => 0) n L c m
  | 0, m, h => by simp [all, Fw, List.getD_eq_getElem?_getD, show m < L + 1 by omega]
  | c + 1, m, h => by
    simp only [all, fwl, Fw, fw, List.getD_eq_getElem?_getD]
    simp only [List.getElem?_map, List.getElem?_range (show m < L + 1 by omega), Option.map_some, Option.getD_some, Nat.zero_add]
    split
    · rw [ssum_sm]
      refine sm_congr _ (fun r hr => ?_)
      have h1 := all_at n L c r (by omega)
      rw [List.getD_eq_getElem?_getD] at h1
      rw [h1, List.getElem?_range hr]
      simp only [Option.map_some, Option.getD_some]
      rw [C_row, List.getD_eq_getElem?_getD]
    · rfl
theorem totals : ∀ n : Nat, n < 16 → (all ((List.range (n + 1 + 1)).map prow) (n + 1) (n + 1) (n + 1)).getD 0 0 = (n + 2) ^ n := by decide +kernel
theorem cnt_nil (n : Nat) (h1 : 1 ≤ n) (h2 : n ≤ 16) : cnt n [] = (n + 1) ^ (n - 1) := by
  have h := totals (n - 1) (by omega)
  rw [show n - 1 + 1 = n by omega, show n - 1 + 2 = n + 1 by omega, all_at n n n 0 (by omega)] at h
  rw [← h, Fw_end]
  unfold cnt
  have : gof n [] = fun _ => 0 := by funext d; simp [gof]
  rw [this]; simp
theorem tot_small : ∀ n : Nat, n < 17 → (n + 1) ^ (n - 1) ≤ 2862423051509815793 := by decide +kernel
theorem tot_pos (n : Nat) : 1 ≤ (n + 1) ^ (n - 1) := Nat.pow_pos (by omega)
theorem cnt_nil_le (n : Nat) (h1 : 1 ≤ n) (h2 : n ≤ 16) : cnt n [] ≤ 2862423051509815793 := by
  rw [cnt_nil n h1 h2]; exact tot_small n (by omega)
end Go.Proofs.Ytfopeenjpdaacaa.MTotal
end
section
namespace Go.Proofs.Ytfopeenjpdaacaa.PC
open Go.RowKit Go.Proofs.YtfopeenjpdaacaaW.PrintWords Go.Proofs.YtfopeenjpdaacaaW.PrintLast Go.Proofs.YtfopeenjpdaacaaW.PrintMore
attribute [local go_sem] max2_int min2_int max_two min_two max_three min_three max_four min_four   -- for this text's walks alone
set_option linter.unusedVariables false
set_option linter.unusedSimpArgs false
end Go.Proofs.Ytfopeenjpdaacaa.PC
end
section
namespace Go.Proofs.Ytfopeenjpdaacaa.PC
open Go.RowKit Go.Proofs.YtfopeenjpdaacaaW.PrintWords Go.Proofs.YtfopeenjpdaacaaW.PrintLast Go.Proofs.YtfopeenjpdaacaaW.PrintMore
attribute [local go_sem] max2_int min2_int max_two min_two max_three min_three max_four min_four   -- for this text's walks alone
set_option linter.unusedVariables false
set_option linter.unusedSimpArgs false
end Go.Proofs.Ytfopeenjpdaacaa.PC
end
section
/- Rank and At, by the program and by the specification: both are the plain ones. -/
namespace Go.Proofs.Ytfopeenjpdaacaa.L
open Go.RowKit Go.Proofs.Ytfopeenjpdaacaa.PC Go.Proofs.YtfopeenjpdaacaaW.PrintWords Go.Proofs.YtfopeenjpdaacaaW.PrintLast Go.Proofs.Ytfopeenjpdaacaa.MRank Go.Proofs.Ytfopeenjpdaacaa.MRanked Go.Proofs.Ytfopeenjpdaacaa.MTotal
set_option maxRecDepth 100000
def ints (p : List Nat) : List Int := p.map fun x : Nat => (x : Int)
theorem ints_nat (p : List Nat) : (ints p).map Int.toNat = p := by
  unfold ints
  rw [List.map_map]
  conv => rhs; rw [← List.map_id p]
  rfl
theorem nat_ints (l : List Int) (h : ∀ x ∈ l, 0 ≤ x) : ints (l.map Int.toNat) = l := by
  unfold ints
  rw [List.map_map]
  conv => rhs; rw [← List.map_id l]
  refine List.map_congr_left (fun x hx => ?_)
  have := h x hx
  simp; omega
theorem ints_len (p : List Nat) : (ints p).length = p.length := by simp [ints]
theorem ints_take (p : List Nat) (i : Nat) : (ints p).take i = ints (p.take i) := by simp [ints, List.map_take]
theorem ints_app (p : List Nat) (x : Nat) : ints p ++ [(x : Int)] = ints (p ++ [x]) := by simp [ints]
theorem ints_rd (p : List Nat) (i : Nat) (h : i < p.length) : rd (ints p) (i : Int) = ((p.getD i 0 : Nat) : Int) := by
  simp [rd, ints, List.getD_eq_getElem?_getD, h]
theorem ints_mem {p : List Nat} {n : Nat} (h : ∀ x ∈ p, x < n) : ∀ x ∈ ints p, 0 ≤ x ∧ x < (n : Int) := by
  intro x hx
  unfold ints at hx
  obtain ⟨y, hy, rfl⟩ := List.mem_map.1 hx
  have := h y hy
  omega
theorem cut_f (l : List Int) (i : Nat) (x : Int) (h : i ≤ l.length) (hl : l.length ≤ 1000000) : slices_IndexFunc_int_int.f l (i : Int) x = some (l.take i ++ [x]) := by
  unfold slices_IndexFunc_int_int.f
  rw [if_pos ⟨by omega, by omega, hl⟩, Int.toNat_natCast]
section
variable {n : Nat}
theorem ways_p (hn : n ≤ 16) (p : List Nat) (x : Nat) (hl : p.length < n) (hp : ∀ y ∈ p, y < n) (hx : x < n) : Ev (fun q => chairs_ways.f q (n : Int) (ints (p ++ [x]))) ((cnt n (p ++ [x]) : Nat) : Int) := by
  have h := ways_ev (n := n) (l := ints (p ++ [x])) hn (by simp [ints]) (by simp [ints]; omega) (ints_mem (fun y hy => by
    rcases List.mem_append.1 hy with k | k
    · exact hp y k
    · rw [List.mem_singleton.1 k]; exact hx))
  rwa [ints_nat] at h
/- Rank -/
theorem take_mem {w : List Nat} (hw : ∀ y ∈ w, y < n) (i : Nat) : ∀ y ∈ w.take i, y < n := fun y hy => hw y (List.mem_of_mem_take hy)
theorem prank_l1 (hn : n ≤ 16) (w : List Nat) (hl : w.length = n) (hw : ∀ y ∈ w, y < n) (i x : Nat) (hi : i < n) (hx : x < n) (acc : Nat) (r : Int × Int)
    (hb : acc + sm x (fun y => cnt n (w.take i ++ [y])) ≤ 9000000000000000000)
    (h : Ev (fun q => chairs_Rank.l0 q (ints w) (n : Int) ((acc + sm x (fun y => cnt n (w.take i ++ [y])) : Nat) : Int) (ints w) (n : Int) ((i + 1 : Nat) : Int)) r) :
    ∀ e y, y + e = x → Ev (fun q => chairs_Rank.l1 q (ints w) (n : Int) ((acc + sm y (fun y => cnt n (w.take i ++ [y])) : Nat) : Int) (i : Int) (ints w) (n : Int) (i : Int) (x : Int) (y : Int)) r := by
  intro e
  induction e with
  | zero =>
    intro y hy
    obtain rfl : y = x := by omega
    refine Ev.step (fun q => ?_) h
    simp only [chairs_Rank.l1, w1 (show i ≤ 1000000 by omega)]
    rw [if_neg (by omega)]
  | succ e ih =>
    intro y hy
    have hi2 := ih (y + 1) (by omega)
    have hs : sm (y + 1) (fun y => cnt n (w.take i ++ [y])) = sm y (fun y => cnt n (w.take i ++ [y])) + cnt n (w.take i ++ [y]) := rfl
    have hm := sm_more (f := fun y => cnt n (w.take i ++ [y])) (m := y + 1) x (by omega)
    refine Ev.step (f := fun q => (chairs_ways.f q (n : Int) (ints (w.take i ++ [y]))).bind fun t592 => chairs_Rank.l1 q (ints w) (n : Int) (wrap64 (((acc + sm y (fun y => cnt n (w.take i ++ [y])) : Nat) : Int) + t592)) (i : Int) (ints w) (n : Int) (i : Int) (x : Int) ((y + 1 : Nat) : Int)) (fun q => ?_) (Ev.bind (ways_p hn (w.take i) y (by rw [List.length_take]; omega) (take_mem hw i) (by omega)) ?_)
    · simp only [chairs_Rank.l1, w1 (show y ≤ 1000000 by omega)]
      rw [if_pos (by omega), cut_f _ i _ (by rw [ints_len]; omega) (by rw [ints_len]; omega), Option.bind_some, ints_take, ints_app]
    · rw [w64 (by omega) (by omega), ← Int.natCast_add, Nat.add_assoc, ← hs]
      exact hi2
theorem prank_l0 (hn : n ≤ 16) (w : List Nat) (hl : w.length = n) (hw : ∀ y ∈ w, y < n) : ∀ e i acc, i + e = n → acc + rk (cnt n) (w.take i) (w.drop i) ≤ 9000000000000000000 →
    Ev (fun q => chairs_Rank.l0 q (ints w) (n : Int) (acc : Nat) (ints w) (n : Int) (i : Int)) (((acc + rk (cnt n) (w.take i) (w.drop i) : Nat) : Int), 0) := by
  intro e
  induction e with
  | zero =>
    intro i acc hi hb
    obtain rfl : i = n := by omega
    have hd : w.drop i = [] := List.drop_eq_nil_of_le (by omega)
    rw [hd]
    refine Ev.step (f := fun _ => some ((((acc + 0 : Nat) : Int)), 0)) (fun q => ?_) (Ev.now _)
    simp only [chairs_Rank.l0]
    rw [if_neg (by omega)]
    rfl
  | succ e ih =>
    intro i acc hi hb
    have hd : w.drop i = w.getD i 0 :: w.drop (i + 1) := by
      rw [List.drop_eq_getElem_cons (by omega)]; simp [List.getD_eq_getElem?_getD, show i < w.length by omega]
    have ht : w.take (i + 1) = w.take i ++ [w.getD i 0] := by
      rw [List.take_succ_eq_append_getElem (by omega)]; simp [List.getD_eq_getElem?_getD, show i < w.length by omega]
    have hx : w.getD i 0 < n := hw _ (by simp [List.getD_eq_getElem?_getD, show i < w.length by omega])
    rw [hd] at hb ⊢
    simp only [rk] at hb ⊢
    rw [← ht] at hb ⊢
    have h0 := ih (i + 1) (acc + sm (w.getD i 0) (fun y => cnt n (w.take i ++ [y]))) (by omega) (by omega)
    rw [Nat.add_assoc acc] at h0
    refine Ev.step (fun q => ?_) (prank_l1 hn w hl hw i (w.getD i 0) (by omega) hx acc _ (by omega) h0 (w.getD i 0) 0 (by omega))
    simp only [chairs_Rank.l0]
    rw [if_pos (by omega), if_pos (by omega), if_pos (by rw [ints_len]; omega), ints_rd w i (by omega)]
    rfl
/- At -/
theorem pat_l1 (hn : n ≤ 16) (p : List Nat) (hl : p.length < n) (hp : ∀ y ∈ p, y < n) (res : List Int × Int) : ∀ f x r, x + f = n → sm x (fun y => cnt n (p ++ [y])) + r < sm n (fun y => cnt n (p ++ [y])) → r ≤ 9000000000000000000 →
    Ev (fun q => chairs_At.l0 q (n : Int) ((pick (cnt n) p f x r).2 : Nat) (ints (p ++ [(pick (cnt n) p f x r).1]))) res → Ev (fun q => chairs_At.l1 q (n : Int) (r : Int) (ints p) (x : Int)) res
  | 0, x, r, h, hr, _, _ => by
    have : x = n := by omega
    rw [this] at hr; omega
  | f + 1, x, r, h, hr, hb, hE => by
    have e : sm (x + 1) (fun y => cnt n (p ++ [y])) = sm x (fun y => cnt n (p ++ [y])) + cnt n (p ++ [x]) := rfl
    refine Ev.step (f := fun q => (chairs_ways.f q (n : Int) (ints (p ++ [x]))).bind fun t626 => if (r : Int) < t626 then chairs_At.l0 q (n : Int) (r : Int) (ints (p ++ [x])) else chairs_At.l1 q (n : Int) (wrap64 ((r : Int) - t626)) (ints p) ((x + 1 : Nat) : Int)) (fun q => ?_) (Ev.bind (ways_p hn p x hl hp (by omega)) ?_)
    · simp only [chairs_At.l1, w1 (show x ≤ 1000000 by omega)]
      rw [cut_f _ _ _ (Nat.le_refl _) (by rw [ints_len]; omega), Option.bind_some, List.take_length, ints_app]
    · simp only [pick] at hE
      by_cases c : r < cnt n (p ++ [x])
      · rw [if_pos c] at hE
        exact Ev.congr (fun q => by rw [if_pos (by omega)]) hE
      · rw [if_neg c] at hE
        have h2 := pat_l1 hn p hl hp res f (x + 1) (r - cnt n (p ++ [x])) (by omega) (by omega) (by omega) hE
        refine Ev.congr (fun q => ?_) h2
        rw [if_neg (by omega), w64 (by omega) (by omega), show (r : Int) - ((cnt n (p ++ [x]) : Nat) : Int) = ((r - cnt n (p ++ [x]) : Nat) : Int) by omega]
theorem pat_l0 (hn : n ≤ 16) : ∀ d (p : List Nat) r, p.length + d = n → (∀ x ∈ p, x < n) → r < cnt n p → r ≤ 9000000000000000000 → Ev (fun q => chairs_At.l0 q (n : Int) (r : Int) (ints p)) (ints (p ++ atL (cnt n) n p d r), 0)
  | 0, p, r, h, _, _, _ => by
    simp only [atL, List.append_nil]
    refine Ev.step (f := fun _ => some (ints p, 0)) (fun q => ?_) (Ev.now _)
    simp only [chairs_At.l0]
    rw [if_neg (by rw [ints_len]; omega)]
  | d + 1, p, r, h, hp, hr, hb => by
    have hs := hr
    rw [(cnt_tree n).sum p (by omega) hp] at hs
    obtain ⟨a, b, e⟩ := pick_spec (c := cnt n) (n := n) p n 0 r (by omega) (by simpa [sm] using hs)
    have h2 := pat_l0 hn d (p ++ [(pick (cnt n) p n 0 r).1]) (pick (cnt n) p n 0 r).2 (by simp; omega) (fun x hx => by
      rcases List.mem_append.1 hx with k | k
      · exact hp x k
      · rw [List.mem_singleton.1 k]; exact a) b (by simp only [sm, Nat.zero_add] at e; omega)
    simp only [atL]
    rw [List.append_assoc, List.singleton_append] at h2
    refine Ev.step (fun q => ?_) (pat_l1 hn p (by omega) hp _ n 0 r (by omega) (by simpa [sm] using hs) hb h2)
    simp only [chairs_At.l0]
    rw [if_pos (by rw [ints_len]; omega)]
    rfl
end
/-- good wishes, by the count -/
theorem sit_cnt (l : List Int) (h : Row (l.length : Int) l) : (sitV (l.length : Int) l).2 = true ↔ cnt l.length (l.map Int.toNat) = 1 := by
  rw [good_below l h, cnt_good l.length (l.map Int.toNat) (by simp)]
  have hb : ∀ k : Nat, k ≤ l.length → below l (k : Int) + gof l.length (l.map Int.toNat) (l.length - k) = l.length := fun k hk => by
    have h1 := bl_gof l.length (l.map Int.toNat) k hk
    rw [List.length_map] at h1
    have h2 := below_nat l (fun w hw => (h.all w hw).1) k
    unfold bl at h1
    omega
  constructor
  · intro hk d hd
    have h1 := hk (l.length - d) (by omega) (by omega)
    have h2 := hb (l.length - d) (by omega)
    rw [show l.length - (l.length - d) = d by omega] at h2
    omega
  · intro hd k h1 h2
    have h3 := hd (l.length - k) (by omega)
    have h4 := hb k h2
    omega
/-- Rank, plainly -/
def RankV (l : List Int) : Int × Int :=
  if l.length = 0 ∨ l.length > 16 then (0, 3) else if rowV (l.length : Int) l = 0 then (if (sitV (l.length : Int) l).2 = true then (((rk (cnt l.length) [] (l.map Int.toNat) : Nat) : Int), 0) else (0, 10)) else (0, rowV (l.length : Int) l)
theorem chairs_same_ev (l : List Int) : chairs_same.f l = some (if l.length = 0 ∨ l.length > 30 then 3 else rowV (l.length : Int) l) := by
  unfold chairs_same.f
  by_cases c : l.length = 0
  · simp [c]
  · by_cases c2 : l.length > 30
    · simp [c, c2]; omega
    · simp [c, c2, wished_ev]; omega
theorem rk_small (l : List Int) (h : Row (l.length : Int) l) (hl : l.length ≤ 16) (hg : (sitV (l.length : Int) l).2 = true) : rk (cnt l.length) [] (l.map Int.toNat) < cnt l.length [] ∧ cnt l.length [] ≤ 2862423051509815793 := by
  have h1 := h.m1
  have hc := (sit_cnt l h).1 hg
  refine ⟨rk_lt (cnt_tree l.length) (l.map Int.toNat) [] (by simp) (fun x hx => ?_) (by simpa using hc), cnt_nil_le _ (by omega) hl⟩
  simp only [List.nil_append] at hx
  obtain ⟨y, hy, rfl⟩ := List.mem_map.1 hx
  have := h.all y hy
  omega
theorem nat_row {l : List Int} {n : Nat} (h : ∀ w ∈ l, 0 ≤ w ∧ w < (n : Int)) : ∀ y ∈ l.map Int.toNat, y < n := by
  intro y hy
  obtain ⟨x, hx, rfl⟩ := List.mem_map.1 hy
  have := h x hx
  omega
theorem Rank_ev (l : List Int) : Ev (fun k => chairs_Rank.f k l) (RankV l) := by
  unfold RankV
  by_cases c0 : l.length = 0
  · rw [if_pos (Or.inl c0)]
    refine Ev.congr (fun k => ?_) (Ev.now _)
    unfold chairs_Rank.f
    rw [chairs_same_ev, Option.bind_some, if_neg (by omega), if_pos (Or.inl c0), if_neg (by omega)]
  by_cases c1 : l.length > 16
  · rw [if_pos (Or.inr c1)]
    refine Ev.congr (fun k => ?_) (Ev.now _)
    unfold chairs_Rank.f
    rw [chairs_same_ev, Option.bind_some, if_pos (by omega)]
  rw [if_neg (by omega)]
  have hf : ∀ k, chairs_Rank.f k l = if rowV (l.length : Int) l = 0 then ((chairs_sit.f k (l.length : Int) l).bind fun bt584 => (if bt584.2 = true then (chairs_Rank.l0 k l (l.length : Int) 0 l (l.length : Int) 0) else (some (0, 10)))) else some (0, rowV (l.length : Int) l) := fun k => by
    unfold chairs_Rank.f
    rw [chairs_same_ev, Option.bind_some, if_neg (show ¬ (l.length : Int) > 16 by omega), if_neg (show ¬ (l.length = 0 ∨ l.length > 30) by omega)]
  by_cases cr : rowV (l.length : Int) l = 0
  · have h := (row_iff _ l).1 cr
    rw [if_pos cr]
    refine Ev.congr (fun k => by rw [hf, if_pos cr]) (Ev.bind (psit_ev _ l h) ?_)
    by_cases cg : (sitV (l.length : Int) l).2 = true
    · rw [if_pos cg]
      obtain ⟨b1, b2⟩ := rk_small l h (by omega) cg
      have h0 := prank_l0 (n := l.length) (by omega) (l.map Int.toNat) (by simp) (nat_row h.all) l.length 0 0 (by omega) (by simp only [List.take_zero, List.drop_zero]; omega)
      rw [nat_ints l (fun x hx => (h.all x hx).1), List.take_zero, List.drop_zero, Nat.zero_add] at h0
      exact Ev.congr (fun k => by rw [if_pos cg]; rfl) h0
    · rw [if_neg cg]
      exact Ev.congr (fun k => by rw [if_neg cg]) (Ev.now _)
  · rw [if_neg cr]
    exact Ev.congr (fun k => by rw [hf, if_neg cr]) (Ev.now _)
theorem power_p : ∀ n : Nat, n < 17 → 1 ≤ n → chairs_power.f 20 (wrap64 ((n : Int) + 1)) (wrap64 ((n : Int) - 1)) = some (((n + 1) ^ (n - 1) : Nat) : Int) := by decide +kernel
/-- At, plainly -/
def AtV (n r : Int) : List Int × Int :=
  if n < 1 ∨ n > 16 then ([], 2) else if r < 0 ∨ r ≥ ((cnt n.toNat [] : Nat) : Int) then ([], 4) else (ints (atL (cnt n.toNat) n.toNat [] n.toNat r.toNat), 0)
theorem At_ev (n r : Int) : Ev (fun k => chairs_At.f k n r) (AtV n r) := by
  unfold AtV
  by_cases c0 : n < 1
  · rw [if_pos (Or.inl c0)]
    refine Ev.congr (f := fun k => chairs_At.j0 k n r true) (fun k => by unfold chairs_At.f; rw [if_pos c0]) (Ev.step (f := fun _ => some ([], 2)) (fun k => by simp only [chairs_At.j0, if_true]) (Ev.now _))
  by_cases c1 : n > 16
  · rw [if_pos (Or.inr c1)]
    refine Ev.congr (f := fun k => chairs_At.j0 k n r true) (fun k => by unfold chairs_At.f; rw [if_neg c0, decide_eq_true c1]) (Ev.step (f := fun _ => some ([], 2)) (fun k => by simp only [chairs_At.j0, if_true]) (Ev.now _))
  rw [if_neg (by omega)]
  obtain ⟨m, rfl⟩ : ∃ m : Nat, n = (m : Int) := ⟨n.toNat, by omega⟩
  rw [Int.toNat_natCast]
  have h1 : 1 ≤ m := by omega
  have h2 : m ≤ 16 := by omega
  refine Ev.congr (f := fun k => chairs_At.j0 k (m : Int) r false) (fun k => by unfold chairs_At.f; rw [if_neg c0, decide_eq_false c1]) ?_
  by_cases c2 : r < 0
  · rw [if_pos (Or.inl c2)]
    exact Ev.step (f := fun _ => some ([], 4)) (fun k => by simp only [chairs_At.j0, Bool.false_eq_true, if_false]; rw [if_pos c2]) (Ev.now _)
  refine Ev.step (f := fun k => (chairs_power.f k (wrap64 ((m : Int) + 1)) (wrap64 ((m : Int) - 1))).bind fun t622 => (if r ≥ t622 then (some (([] : List Int), 4)) else (chairs_At.l0 k (m : Int) r ([] : List Int)))) (fun k => by simp only [chairs_At.j0, Bool.false_eq_true, if_false]; rw [if_neg c2]) (Ev.bind (Ev.of (chairs_power.mono _ _) (power_p m (by omega) h1)) ?_)
  rw [← cnt_nil m h1 h2]
  have hb := cnt_nil_le m h1 h2
  by_cases c3 : r ≥ ((cnt m [] : Nat) : Int)
  · rw [if_pos (Or.inr c3)]
    exact Ev.congr (fun k => by rw [if_pos c3]) (Ev.now _)
  · rw [if_neg (by omega)]
    obtain ⟨q, rfl⟩ : ∃ q : Nat, r = (q : Int) := ⟨r.toNat, by omega⟩
    rw [Int.toNat_natCast]
    have h0 := pat_l0 (n := m) h2 m [] q (by simp) (by simp) (by omega) (by omega)
    rw [List.nil_append] at h0
    exact Ev.congr (fun k => by rw [if_neg c3]; rfl) h0
end Go.Proofs.Ytfopeenjpdaacaa.L
end
section
/- Chairs: ChairsRanked. -/
namespace Go.Proofs.Ytfopeenjpdaacaa.L
open Go.RowKit Go.Proofs.Ytfopeenjpdaacaa.PC Go.Proofs.YtfopeenjpdaacaaW.PrintWords Go.Proofs.YtfopeenjpdaacaaW.PrintLast Go.Proofs.Ytfopeenjpdaacaa.MRank Go.Proofs.Ytfopeenjpdaacaa.MRanked Go.Proofs.Ytfopeenjpdaacaa.MTotal
set_option maxRecDepth 100000
theorem count_nn : ∀ n : Nat, n < 17 → 1 ≤ n → chairs_Count.f 30 (n : Int) (n : Int) = some ((((n + 1) ^ (n - 1) : Nat) : Int), 0) := by decide +kernel
theorem at_ok (m A : Nat) (hA : A < cnt m []) : (atL (cnt m) m [] m A).length = m ∧ (∀ x ∈ atL (cnt m) m [] m A, x < m) ∧ cnt m (atL (cnt m) m [] m A) = 1 ∧ rk (cnt m) [] (atL (cnt m) m [] m A) = A := by
  have h := at_spec (cnt_tree m) m [] A (by simp) (by simp) hA
  simpa using h
theorem rank_ok (m A : Nat) (v : List Nat) (h1 : 1 ≤ m) (h2 : m ≤ 16) (hl : v.length = m) (hv : ∀ x ∈ v, x < m) (hc : cnt m v = 1) (hr : rk (cnt m) [] v = A) : RankV (ints v) = ((A : Int), 0) := by
  have e : (ints v).length = m := by rw [ints_len, hl]
  have hrow : Row ((ints v).length : Int) (ints v) := ⟨by rw [e]; omega, by rw [e]; omega, Int.le_refl _, fun w hw => by rw [e]; exact ints_mem hv w hw⟩
  have hs := (sit_cnt (ints v) hrow).2 (by rw [ints_nat, e]; exact hc)
  unfold RankV
  rw [if_neg (by rw [e]; omega), if_pos ((row_iff _ _).2 hrow), if_pos hs, ints_nat, e, hr]
theorem at_val (m A : Nat) (h1 : 1 ≤ m) (h2 : m ≤ 16) (hA : A < cnt m []) : AtV (m : Int) (A : Int) = (ints (atL (cnt m) m [] m A), 0) := by
  unfold AtV
  rw [if_neg (by omega), Int.toNat_natCast, if_neg (by omega), Int.toNat_natCast]
theorem back (l : List Int) (h : (RankV l).2 = 0) : AtV (l.length : Int) (RankV l).1 = (l, 0) := by
  unfold RankV at h ⊢
  by_cases c : l.length = 0 ∨ l.length > 16
  · rw [if_pos c] at h; cases h
  rw [if_neg c] at h ⊢
  by_cases cr : rowV (l.length : Int) l = 0
  · rw [if_pos cr] at h ⊢
    have hr := (row_iff _ l).1 cr
    by_cases cg : (sitV (l.length : Int) l).2 = true
    · rw [if_pos cg]
      obtain ⟨b1, _⟩ := rk_small l hr (by omega) cg
      have hc := (sit_cnt l hr).1 cg
      have hm := nat_row hr.all
      have ha := at_rk (cnt_tree l.length) (l.map Int.toNat) [] (by simp) (by simpa using hm) (by simpa using hc)
      rw [List.length_map] at ha
      rw [at_val l.length _ (by omega) (by omega) b1, ha, nat_ints l (fun x hx => (hr.all x hx).1)]
    · rw [if_neg cg] at h; cases h
  · rw [if_neg cr] at h; exact absurd h cr
section
variable {m A B : Nat} {u v : List Nat}
theorem ranked_l0 (h1 : 1 ≤ m) (h2 : m ≤ 16) (hu : u.length = m) (hv : v.length = m) (mu : ∀ x ∈ u, x < m) (mv : ∀ x ∈ v, x < m) (cu : cnt m u = 1) (cv : cnt m v = 1) (ru : rk (cnt m) [] u = A) (rv : rk (cnt m) [] v = B) :
    ∀ e i, i + e = m → (∀ j, j < i → u.getD j 0 = v.getD j 0) → Ev (fun k => pomadelaw03_ChairsRanked.l0 k (m : Int) (A : Int) (B : Int) (ints u) (ints v) (i : Int)) true := by
  intro e
  induction e with
  | zero =>
    intro i hi hj
    obtain rfl : i = m := by omega
    have huv : u = v := by
      apply List.ext_getElem (by omega)
      intro j a b
      have := hj j (by omega)
      simpa [List.getD_eq_getElem?_getD, a, b] using this
    have hAB : A = B := by rw [← ru, ← rv, huv]
    refine Ev.step (f := fun _ => some true) (fun k => ?_) (Ev.now _)
    simp only [pomadelaw03_ChairsRanked.l0]
    rw [if_neg (by omega), if_pos (by omega)]
    rfl
  | succ e ih =>
    intro i hi hj
    by_cases c : u.getD i 0 = v.getD i 0
    · have hi2 := ih (i + 1) (by omega) (fun j hj2 => by
        by_cases q : j = i
        · rw [q]; exact c
        · exact hj j (by omega))
      refine Ev.step (fun k => ?_) hi2
      simp only [pomadelaw03_ChairsRanked.l0, w1 (show i ≤ 1000000 by omega)]
      rw [if_pos (by omega), if_pos (by omega), if_pos (by rw [ints_len]; omega), if_pos (by rw [ints_len]; omega), ints_rd u i (by omega), ints_rd v i (by omega), if_pos (by omega)]
    · have hd : (decide (((u.getD i 0 : Nat) : Int) < ((v.getD i 0 : Nat) : Int)) == decide ((A : Int) < (B : Int))) = true := by
        rcases Nat.lt_or_gt_of_ne c with q | q
        · have := rk_less (cnt_tree m) u v [] (by simpa using hu) (by omega) (by simpa using mu) (by simpa using mv) (by simpa using cu) (by simpa using cv) i (by omega) hj q
          rw [ru, rv] at this
          rw [decide_eq_true (by omega), decide_eq_true (by omega)]; rfl
        · have := rk_less (cnt_tree m) v u [] (by simpa using hv) (by omega) (by simpa using mv) (by simpa using mu) (by simpa using cv) (by simpa using cu) i (by omega) (fun j h => (hj j h).symm) q
          rw [ru, rv] at this
          rw [decide_eq_false (by omega), decide_eq_false (by omega)]; rfl
      refine Ev.step (f := fun _ => some true) (fun k => ?_) (Ev.now _)
      simp only [pomadelaw03_ChairsRanked.l0]
      rw [if_pos (by omega), if_pos (by omega), if_pos (by rw [ints_len]; omega), if_pos (by rw [ints_len]; omega), ints_rd u i (by omega), ints_rd v i (by omega), if_neg (by omega), if_pos hd]
      rfl
end
theorem u64_id {x : Int} (h0 : 0 ≤ x) (h1 : x ≤ 9223372036854775807) : IntKind.u64.wrap x = x := by
  simp [IntKind.wrap, IntKind.bits, IntKind.signed]
  omega
theorem tmod_w {x : Int} {t : Nat} (h0 : 0 ≤ x) (ht : 1 ≤ t) (h1 : t ≤ 2862423051509815793) : wrap64 (Int.tmod x (t : Int)) = ((x.toNat % t : Nat) : Int) := by
  obtain ⟨y, rfl⟩ : ∃ y : Nat, x = (y : Int) := ⟨x.toNat, by omega⟩
  have hlt := Nat.mod_lt y (show t > 0 by omega)
  rw [Int.toNat_natCast, Int.tmod_eq_emod_of_nonneg (by omega), ← Int.natCast_emod, w64 (by omega) (by omega)]
theorem ranked_j1 (m : Nat) (h1 : 1 ≤ m) (h2 : m ≤ 16) (a2 a3 : Int) (p2 : 0 ≤ a2) (p3 : 0 ≤ a3) : Ev (fun k => pomadelaw03_ChairsRanked.j1 k a2 a3 (m : Int) ((cnt m [] : Nat) : Int) false) true := by
  have hb := cnt_nil_le m h1 h2
  have hp : 1 ≤ cnt m [] := by rw [cnt_nil m h1 h2]; exact tot_pos m
  obtain ⟨A, hA⟩ : ∃ A, A = a2.toNat % cnt m [] := ⟨_, rfl⟩
  obtain ⟨B, hB⟩ : ∃ B, B = a3.toNat % cnt m [] := ⟨_, rfl⟩
  have lA : A < cnt m [] := by rw [hA]; exact Nat.mod_lt _ (by omega)
  have lB : B < cnt m [] := by rw [hB]; exact Nat.mod_lt _ (by omega)
  have eA : wrap64 (Int.tmod a2 ((cnt m [] : Nat) : Int)) = (A : Int) := by rw [hA]; exact tmod_w p2 hp hb
  have eB : wrap64 (Int.tmod a3 ((cnt m [] : Nat) : Int)) = (B : Int) := by rw [hB]; exact tmod_w p3 hp hb
  obtain ⟨u1, u2, u3, u4⟩ := at_ok m A lA
  obtain ⟨v1, v2, v3, v4⟩ := at_ok m B lB
  have hL := ranked_l0 h1 h2 u1 v1 u2 v2 u3 v3 u4 v4 m 0 (by omega) (fun j hj => by omega)
  have hR := Rank_ev (ints (atL (cnt m) m [] m A))
  rw [rank_ok m A _ h1 h2 u1 u2 u3 u4] at hR
  have hX := At_ev (m : Int) (A : Int)
  rw [at_val m A h1 h2 lA] at hX
  have hY := At_ev (m : Int) (B : Int)
  rw [at_val m B h1 h2 lB] at hY
  have hZ := At_ev (m : Int) ((cnt m [] : Nat) : Int)
  have eZ : AtV (m : Int) ((cnt m [] : Nat) : Int) = ([], 4) := by
    unfold AtV
    rw [if_neg (by omega), Int.toNat_natCast, if_pos (by omega)]
  rw [eZ] at hZ
  refine Ev.step (f := fun k => (chairs_At.f k (m : Int) (A : Int)).bind fun bt660 => ((chairs_At.f k (m : Int) (B : Int)).bind fun bt664 => ((chairs_Rank.f k bt660.1).bind fun bt668 => ((chairs_At.f k (m : Int) ((cnt m [] : Nat) : Int)).bind fun bt670 => (if bt660.2 = 0 then (if bt664.2 = 0 then (if bt668.2 = 0 then (if bt668.1 = (A : Int) then (if bt670.2 = 4 then (if (bt660.1.length : Int) = (m : Int) then (pomadelaw03_ChairsRanked.j2 k (m : Int) (A : Int) (B : Int) bt660.1 bt664.1 ((bt664.1.length : Int) != (m : Int))) else (pomadelaw03_ChairsRanked.j2 k (m : Int) (A : Int) (B : Int) bt660.1 bt664.1 true)) else (pomadelaw03_ChairsRanked.j2 k (m : Int) (A : Int) (B : Int) bt660.1 bt664.1 true)) else (pomadelaw03_ChairsRanked.j2 k (m : Int) (A : Int) (B : Int) bt660.1 bt664.1 true)) else (pomadelaw03_ChairsRanked.j2 k (m : Int) (A : Int) (B : Int) bt660.1 bt664.1 true)) else (pomadelaw03_ChairsRanked.j2 k (m : Int) (A : Int) (B : Int) bt660.1 bt664.1 true)) else (pomadelaw03_ChairsRanked.j2 k (m : Int) (A : Int) (B : Int) bt660.1 bt664.1 true)))))) (fun k => ?_) ?_
  · simp only [pomadelaw03_ChairsRanked.j1, Bool.false_eq_true, if_false]
    rw [u64_id (by omega) (by omega), if_neg (by omega), eA, eB]
  refine Ev.bind hX (Ev.bind hY (Ev.bind hR (Ev.bind hZ ?_)))
  refine Ev.congr (f := fun k => pomadelaw03_ChairsRanked.j2 k (m : Int) (A : Int) (B : Int) (ints (atL (cnt m) m [] m A)) (ints (atL (cnt m) m [] m B)) false) (fun k => ?_) (Ev.step (fun k => ?_) hL)
  · rw [if_pos rfl, if_pos rfl, if_pos rfl, if_pos rfl, if_pos rfl, if_pos (by rw [ints_len, u1])]
    congr 1
    rw [ints_len, v1]
    simp
  · simp only [pomadelaw03_ChairsRanked.j2, Bool.false_eq_true, if_false]
    rfl
theorem ranked_j0 (a1 a2 a3 : Int) (p1 : 0 ≤ a1) (q1 : a1 ≤ 255) (p2 : 0 ≤ a2) (p3 : 0 ≤ a3) : Ev (fun k => pomadelaw03_ChairsRanked.j0 k a1 a2 a3) true := by
  obtain ⟨m, h1, h2, em⟩ : ∃ m : Nat, 1 ≤ m ∧ m ≤ 16 ∧ wrap64 (1 + wrap64 (Int.tmod a1 16)) = (m : Int) := by
    refine ⟨(1 + a1 % 16).toNat, by omega, by omega, ?_⟩
    rw [Int.tmod_eq_emod_of_nonneg p1, w64 (x := a1 % 16) (by omega) (by omega), w64 (by omega) (by omega)]
    omega
  have hp : 1 ≤ cnt m [] := by rw [cnt_nil m h1 h2]; exact tot_pos m
  have hc : Ev (fun k => chairs_Count.f k (m : Int) (m : Int)) (((cnt m [] : Nat) : Int), 0) := by
    rw [cnt_nil m h1 h2]
    exact Ev.of (chairs_Count.mono _ _) (count_nn m (by omega) h1)
  refine Ev.step (f := fun k => (chairs_Count.f k (m : Int) (m : Int)).bind fun bt658 => (if bt658.2 = 0 then (pomadelaw03_ChairsRanked.j1 k a2 a3 (m : Int) bt658.1 (decide (bt658.1 < 1))) else (pomadelaw03_ChairsRanked.j1 k a2 a3 (m : Int) bt658.1 true))) (fun k => ?_) (Ev.bind hc ?_)
  · simp only [pomadelaw03_ChairsRanked.j0, em]
  · refine Ev.congr (fun k => ?_) (ranked_j1 m h1 h2 a2 a3 p2 p3)
    rw [if_pos rfl, decide_eq_false (by omega)]
theorem ChairsRanked_pure : pomadelaw03_ChairsRanked.Pure := by
  intro l a1 a2 a3 _ _ _ f1 f2 f3
  have b1 : 0 ≤ a1 ∧ a1 ≤ 255 := by
    simp [Lit.wf, IntKind.bits, IntKind.signed, IntKind.min, IntKind.max] at f1
    omega
  have b2 : 0 ≤ a2 := by
    simp [Lit.wf, IntKind.bits, IntKind.signed, IntKind.min, IntKind.max] at f2
    omega
  have b3 : 0 ≤ a3 := by
    simp [Lit.wf, IntKind.bits, IntKind.signed, IntKind.min, IntKind.max] at f3
    omega
  refine Ev.rounds ?_
  by_cases c : (l.length : Int) > 60
  · exact Ev.congr (fun k => by unfold pomadelaw03_ChairsRanked.f; rw [if_pos c]; rfl) (Ev.now true)
  have hj := ranked_j0 a1 a2 a3 b1.1 b1.2 b2 b3
  refine Ev.congr (fun k => by unfold pomadelaw03_ChairsRanked.f; rw [if_neg c]) ?_
  refine Ev.bind (Rank_ev l) ?_
  by_cases cr : (RankV l).2 = 0
  · have hA := At_ev (l.length : Int) (RankV l).1
    rw [back l cr] at hA
    refine Ev.congr (fun k => by rw [if_pos cr]) (Ev.bind hA (Ev.congr (fun k => by rw [if_pos rfl]) (Ev.bind (same_ev l (by omega)) ?_)))
    exact Ev.congr (fun k => by rw [if_pos rfl]) hj
  · exact Ev.congr (fun k => by rw [if_neg cr]) hj
end Go.Proofs.Ytfopeenjpdaacaa.L
namespace Go.Proofs.Ytfopeenjpdaacaa.Pure
theorem ChairsRanked : Go.Proofs.Ytfopeenjpdaacaa.PC.pomadelaw03_ChairsRanked.Pure := Go.Proofs.Ytfopeenjpdaacaa.L.ChairsRanked_pure
end Go.Proofs.Ytfopeenjpdaacaa.Pure
end
