/- Parts of the proof of LawPlaitBent, one behind the other: PCf18 MGlue MOrb MJoin LProd. -/
import Derived.Test.YtjfkompfkgjdaaaJPlaitBent4
section
namespace Go.Proofs.Ytjfkompfkgjdaaa.PC
open Go.RowKit Go.Proofs.YtjfkompfkgjdaaaW.PrintWords Go.Proofs.YtjfkompfkgjdaaaW.PrintLast Go.Proofs.YtjfkompfkgjdaaaW.PrintMore
attribute [local go_sem] max2_int min2_int max_two min_two max_three min_three max_four min_four   -- for this text's walks alone
set_option linter.unusedVariables false
set_option linter.unusedSimpArgs false
/-! ### pomadelaw07_PlaitBent: function 18 -/
mutual
def pomadelaw07_PlaitBent.j0 : Nat → List Int → ByteArray → Bool → Option (Bool)
 | 0, _, _, _ => none
 | k + 1, x0, x1, x30 => if x30 = true then ((pomadelaw07_alive.f).bind fun t887 => (some t887)) else ((plait_Bend.f k (wrap64 ((x1.size : Int) / 2)) x1).bind fun bt888 => (if bt888.2 = 0 then ((plait_Arches.f k bt888.1).bind fun bt892 => ((plait_Is.f k bt888.1).bind fun bt894 => (if bt892.2 = 0 then (if bt894.2 = 0 then (if bt892.1.toList = x1.toList then (if bt894.1 = true then (pomadelaw07_PlaitBent.j1 k x0) else (some false)) else (some false)) else (some false)) else (some false)))) else (pomadelaw07_PlaitBent.j1 k x0)))
def pomadelaw07_PlaitBent.j1 : Nat → List Int → Option (Bool)
 | 0, _ => none
 | k + 1, x0 => (plait_Arches.f k x0).bind fun bt896 => (if bt896.2 = 0 then ((plait_Bend.f k (wrap64 ((x0.length : Int) / 2)) bt896.1).bind fun bt899 => ((plait_Power.f k x0).bind fun bt903 => ((pomaderef07_Diagram.f k x0).bind fun t906 => (if t906 = 0 then (if bt899.2 = 0 then (if bt903.2.2 = 0 then ((pomadelaw07_same.f k bt899.1 x0).bind fun t907 => (if t907 = true then (if bt903.1 < 1 then (pomadelaw07_PlaitBent.j2 k x0 bt903.1 bt903.2.1 true) else (if bt903.2.1 ≤ bt903.1 then (pomadelaw07_PlaitBent.j2 k x0 bt903.1 bt903.2.1 true) else (pomadelaw07_PlaitBent.j2 k x0 bt903.1 bt903.2.1 (decide (bt903.2.1 > 100))))) else (pomadelaw07_PlaitBent.j2 k x0 bt903.1 bt903.2.1 true))) else (pomadelaw07_PlaitBent.j2 k x0 bt903.1 bt903.2.1 true)) else (pomadelaw07_PlaitBent.j2 k x0 bt903.1 bt903.2.1 true)) else (pomadelaw07_PlaitBent.j2 k x0 bt903.1 bt903.2.1 true))))) else (if bt896.1.toList = ([] : List UInt8) then ((pomadelaw07_alive.f).bind fun t898 => (some t898)) else (some false)))
def pomadelaw07_PlaitBent.j2 : Nat → List Int → Int → Int → Bool → Option (Bool)
 | 0, _, _, _, _ => none
 | k + 1, x0, x14, x15, x122 => if x122 = true then (some false) else (pomadelaw07_PlaitBent.l0 k x0 x14 x15 (([x0] : List (List Int))))
def pomadelaw07_PlaitBent.l0 : Nat → List Int → Int → Int → List (List Int) → Option (Bool)
 | 0, _, _, _, _ => none
 | k + 1, x0, x14, x15, x17 => if (x17.length : Int) < x15 then (if 0 ≤ (wrap64 ((x17.length : Int) - 1)) then (if (wrap64 ((x17.length : Int) - 1)) < (x17.length : Int) then ((plait_Product.f k (rd_L3 x17 (wrap64 ((x17.length : Int) - 1))) x0).bind fun bt912 => (if bt912.2.2 = 0 then (if x17.length < 5864062014805 then (pomadelaw07_PlaitBent.l0 k x0 x14 x15 (x17 ++ [bt912.1])) else (none)) else (some false))) else (none)) else (none)) else (pomadelaw07_PlaitBent.l1 k x14 x15 x17 0)
def pomadelaw07_PlaitBent.l1 : Nat → Int → Int → List (List Int) → Int → Option (Bool)
 | 0, _, _, _, _ => none
 | k + 1, x14, x15, x17, x21 => if x21 < x15 then (pomadelaw07_PlaitBent.l2 k x14 x15 x17 x21 0) else ((pomadelaw07_alive.f).bind fun t920 => (some t920))
def pomadelaw07_PlaitBent.l2 : Nat → Int → Int → List (List Int) → Int → Int → Option (Bool)
 | 0, _, _, _, _, _ => none
 | k + 1, x14, x15, x17, x21, x22 => if x22 < x21 then (if 0 ≤ x21 then (if x21 < (x17.length : Int) then (if 0 ≤ x22 then (if x22 < (x17.length : Int) then ((pomadelaw07_same.f k (rd_L3 x17 x21) (rd_L3 x17 x22)).bind fun t923 => (if x21 = (wrap64 (x15 - 1)) then (if (t923 != (x22 == (wrap64 (x14 - 1)))) = true then (some false) else (pomadelaw07_PlaitBent.l2 k x14 x15 x17 x21 (wrap64 (x22 + 1)))) else (if (t923 != false) = true then (some false) else (pomadelaw07_PlaitBent.l2 k x14 x15 x17 x21 (wrap64 (x22 + 1)))))) else (none)) else (none)) else (none)) else (none)) else (pomadelaw07_PlaitBent.l1 k x14 x15 x17 (wrap64 (x21 + 1)))
end
def pomadelaw07_PlaitBent.f (k : Nat) (l0 : List Int) (a1 : ByteArray) : Option (Bool) := if (l0.length : Int) > 50 then (pomadelaw07_PlaitBent.j0 k l0 a1 true) else (pomadelaw07_PlaitBent.j0 k l0 a1 (decide ((a1.size : Int) > 50)))
theorem pomadelaw07_PlaitBent.mono_l : ∀ k, (∀ y0 y1 y2, LeO (pomadelaw07_PlaitBent.j0 k y0 y1 y2) (pomadelaw07_PlaitBent.j0 (k + 1) y0 y1 y2)) ∧ (∀ y0, LeO (pomadelaw07_PlaitBent.j1 k y0) (pomadelaw07_PlaitBent.j1 (k + 1) y0)) ∧ (∀ y0 y1 y2 y3, LeO (pomadelaw07_PlaitBent.j2 k y0 y1 y2 y3) (pomadelaw07_PlaitBent.j2 (k + 1) y0 y1 y2 y3)) ∧ (∀ y0 y1 y2 y3, LeO (pomadelaw07_PlaitBent.l0 k y0 y1 y2 y3) (pomadelaw07_PlaitBent.l0 (k + 1) y0 y1 y2 y3)) ∧ (∀ y0 y1 y2 y3, LeO (pomadelaw07_PlaitBent.l1 k y0 y1 y2 y3) (pomadelaw07_PlaitBent.l1 (k + 1) y0 y1 y2 y3)) ∧ (∀ y0 y1 y2 y3 y4, LeO (pomadelaw07_PlaitBent.l2 k y0 y1 y2 y3 y4) (pomadelaw07_PlaitBent.l2 (k + 1) y0 y1 y2 y3 y4))
 | 0 => ⟨fun _ _ _ r h => by simp [pomadelaw07_PlaitBent.j0] at h, fun _ r h => by simp [pomadelaw07_PlaitBent.j1] at h, fun _ _ _ _ r h => by simp [pomadelaw07_PlaitBent.j2] at h, fun _ _ _ _ r h => by simp [pomadelaw07_PlaitBent.l0] at h, fun _ _ _ _ r h => by simp [pomadelaw07_PlaitBent.l1] at h, fun _ _ _ _ _ r h => by simp [pomadelaw07_PlaitBent.l2] at h⟩
 | k + 1 => by
  obtain ⟨ih0, ih1, ih2, ih3, ih4, ih5⟩ := pomadelaw07_PlaitBent.mono_l k
  refine ⟨?_, ?_, ?_, ?_, ?_, ?_⟩
  ·intro y0 y1 y2
   unfold pomadelaw07_PlaitBent.j0
   repeat' first
   | (with_reducible exact ih0 _ _ _)
   | (with_reducible exact ih1 _)
   | (with_reducible exact ih2 _ _ _ _)
   | (with_reducible exact ih3 _ _ _ _)
   | (with_reducible exact ih4 _ _ _ _)
   | (with_reducible exact ih5 _ _ _ _ _)
   | (with_reducible exact plait_Arches.mono _ _)
   | (with_reducible exact plait_Bend.mono _ _ _)
   | (with_reducible exact plait_Is.mono _ _)
   | (with_reducible exact plait_Power.mono _ _)
   | (with_reducible exact plait_Product.mono _ _ _)
   | (with_reducible exact pomadelaw07_same.mono _ _ _)
   | (with_reducible exact pomaderef07_Diagram.mono _ _)
   | (with_reducible exact LeO.refl _)
   | (with_reducible exact LeO.none _)
   | (with_reducible refine LeO.ite ?_ ?_)
   | (with_reducible refine LeO.bind ?_ (fun _ => ?_))
   | exact ih0 _ _ _
   | exact ih1 _
   | exact ih2 _ _ _ _
   | exact ih3 _ _ _ _
   | exact ih4 _ _ _ _
   | exact ih5 _ _ _ _ _
   | exact plait_Arches.mono _ _
   | exact plait_Bend.mono _ _ _
   | exact plait_Is.mono _ _
   | exact plait_Power.mono _ _
   | exact plait_Product.mono _ _ _
   | exact pomadelaw07_same.mono _ _ _
   | exact pomaderef07_Diagram.mono _ _
   | exact LeO.none _
   | refine LeO.ite ?_ ?_
   | refine LeO.bind ?_ (fun _ => ?_)
  ·intro y0
   unfold pomadelaw07_PlaitBent.j1
   repeat' first
   | (with_reducible exact ih0 _ _ _)
   | (with_reducible exact ih1 _)
   | (with_reducible exact ih2 _ _ _ _)
   | (with_reducible exact ih3 _ _ _ _)
   | (with_reducible exact ih4 _ _ _ _)
   | (with_reducible exact ih5 _ _ _ _ _)
   | (with_reducible exact plait_Arches.mono _ _)
   | (with_reducible exact plait_Bend.mono _ _ _)
   | (with_reducible exact plait_Is.mono _ _)
   | (with_reducible exact plait_Power.mono _ _)
   | (with_reducible exact plait_Product.mono _ _ _)
   | (with_reducible exact pomadelaw07_same.mono _ _ _)
   | (with_reducible exact pomaderef07_Diagram.mono _ _)
   | (with_reducible exact LeO.refl _)
   | (with_reducible exact LeO.none _)
   | (with_reducible refine LeO.ite ?_ ?_)
   | (with_reducible refine LeO.bind ?_ (fun _ => ?_))
   | exact ih0 _ _ _
   | exact ih1 _
   | exact ih2 _ _ _ _
   | exact ih3 _ _ _ _
   | exact ih4 _ _ _ _
   | exact ih5 _ _ _ _ _
   | exact plait_Arches.mono _ _
   | exact plait_Bend.mono _ _ _
   | exact plait_Is.mono _ _
   | exact plait_Power.mono _ _
   | exact plait_Product.mono _ _ _
   | exact pomadelaw07_same.mono _ _ _
   | exact pomaderef07_Diagram.mono _ _
   | exact LeO.none _
   | refine LeO.ite ?_ ?_
   | refine LeO.bind ?_ (fun _ => ?_)
  ·intro y0 y1 y2 y3
   unfold pomadelaw07_PlaitBent.j2
   repeat' first
   | (with_reducible exact ih0 _ _ _)
   | (with_reducible exact ih1 _)
   | (with_reducible exact ih2 _ _ _ _)
   | (with_reducible exact ih3 _ _ _ _)
   | (with_reducible exact ih4 _ _ _ _)
   | (with_reducible exact ih5 _ _ _ _ _)
   | (with_reducible exact plait_Arches.mono _ _)
   | (with_reducible exact plait_Bend.mono _ _ _)
   | (with_reducible exact plait_Is.mono _ _)
   | (with_reducible exact plait_Power.mono _ _)
   | (with_reducible exact plait_Product.mono _ _ _)
   | (with_reducible exact pomadelaw07_same.mono _ _ _)
   | (with_reducible exact pomaderef07_Diagram.mono _ _)
   | (with_reducible exact LeO.refl _)
   | (with_reducible exact LeO.none _)
   | (with_reducible refine LeO.ite ?_ ?_)
   | (with_reducible refine LeO.bind ?_ (fun _ => ?_))
   | exact ih0 _ _ _
   | exact ih1 _
   | exact ih2 _ _ _ _
   | exact ih3 _ _ _ _
   | exact ih4 _ _ _ _
   | exact ih5 _ _ _ _ _
   | exact plait_Arches.mono _ _
   | exact plait_Bend.mono _ _ _
   | exact plait_Is.mono _ _
   | exact plait_Power.mono _ _
   | exact plait_Product.mono _ _ _
   | exact pomadelaw07_same.mono _ _ _
   | exact pomaderef07_Diagram.mono _ _
   | exact LeO.none _
   | refine LeO.ite ?_ ?_
   | refine LeO.bind ?_ (fun _ => ?_)
  ·intro y0 y1 y2 y3
   unfold pomadelaw07_PlaitBent.l0
   repeat' first
   | (with_reducible exact ih0 _ _ _)
   | (with_reducible exact ih1 _)
   | (with_reducible exact ih2 _ _ _ _)
   | (with_reducible exact ih3 _ _ _ _)
   | (with_reducible exact ih4 _ _ _ _)
   | (with_reducible exact ih5 _ _ _ _ _)
   | (with_reducible exact plait_Arches.mono _ _)
   | (with_reducible exact plait_Bend.mono _ _ _)
   | (with_reducible exact plait_Is.mono _ _)
   | (with_reducible exact plait_Power.mono _ _)
   | (with_reducible exact plait_Product.mono _ _ _)
   | (with_reducible exact pomadelaw07_same.mono _ _ _)
   | (with_reducible exact pomaderef07_Diagram.mono _ _)
   | (with_reducible exact LeO.refl _)
   | (with_reducible exact LeO.none _)
   | (with_reducible refine LeO.ite ?_ ?_)
   | (with_reducible refine LeO.bind ?_ (fun _ => ?_))
   | exact ih0 _ _ _
   | exact ih1 _
   | exact ih2 _ _ _ _
   | exact ih3 _ _ _ _
   | exact ih4 _ _ _ _
   | exact ih5 _ _ _ _ _
   | exact plait_Arches.mono _ _
   | exact plait_Bend.mono _ _ _
   | exact plait_Is.mono _ _
   | exact plait_Power.mono _ _
   | exact plait_Product.mono _ _ _
   | exact pomadelaw07_same.mono _ _ _
   | exact pomaderef07_Diagram.mono _ _
   | exact LeO.none _
   | refine LeO.ite ?_ ?_
   | refine LeO.bind ?_ (fun _ => ?_)
  ·intro y0 y1 y2 y3
   unfold pomadelaw07_PlaitBent.l1
   repeat' first
   | (with_reducible exact ih0 _ _ _)
   | (with_reducible exact ih1 _)
   | (with_reducible exact ih2 _ _ _ _)
   | (with_reducible exact ih3 _ _ _ _)
   | (with_reducible exact ih4 _ _ _ _)
   | (with_reducible exact ih5 _ _ _ _ _)
   | (with_reducible exact plait_Arches.mono _ _)
   | (with_reducible exact plait_Bend.mono _ _ _)
   | (with_reducible exact plait_Is.mono _ _)
   | (with_reducible exact plait_Power.mono _ _)
   | (with_reducible exact plait_Product.mono _ _ _)
   | (with_reducible exact pomadelaw07_same.mono _ _ _)
   | (with_reducible exact pomaderef07_Diagram.mono _ _)
   | (with_reducible exact LeO.refl _)
   | (with_reducible exact LeO.none _)
   | (with_reducible refine LeO.ite ?_ ?_)
   | (with_reducible refine LeO.bind ?_ (fun _ => ?_))
   | exact ih0 _ _ _
   | exact ih1 _
   | exact ih2 _ _ _ _
   | exact ih3 _ _ _ _
   | exact ih4 _ _ _ _
   | exact ih5 _ _ _ _ _
   | exact plait_Arches.mono _ _
   | exact plait_Bend.mono _ _ _
   | exact plait_Is.mono _ _
   | exact plait_Power.mono _ _
   | exact plait_Product.mono _ _ _
   | exact pomadelaw07_same.mono _ _ _
   | exact pomaderef07_Diagram.mono _ _
   | exact LeO.none _
   | refine LeO.ite ?_ ?_
   | refine LeO.bind ?_ (fun _ => ?_)
  ·intro y0 y1 y2 y3 y4
   unfold pomadelaw07_PlaitBent.l2
   repeat' first
   | (with_reducible exact ih0 _ _ _)
   | (with_reducible exact ih1 _)
   | (with_reducible exact ih2 _ _ _ _)
   | (with_reducible exact ih3 _ _ _ _)
   | (with_reducible exact ih4 _ _ _ _)
   | (with_reducible exact ih5 _ _ _ _ _)
   | (with_reducible exact plait_Arches.mono _ _)
   | (with_reducible exact plait_Bend.mono _ _ _)
   | (with_reducible exact plait_Is.mono _ _)
   | (with_reducible exact plait_Power.mono _ _)
   | (with_reducible exact plait_Product.mono _ _ _)
   | (with_reducible exact pomadelaw07_same.mono _ _ _)
   | (with_reducible exact pomaderef07_Diagram.mono _ _)
   | (with_reducible exact LeO.refl _)
   | (with_reducible exact LeO.none _)
   | (with_reducible refine LeO.ite ?_ ?_)
   | (with_reducible refine LeO.bind ?_ (fun _ => ?_))
   | exact ih0 _ _ _
   | exact ih1 _
   | exact ih2 _ _ _ _
   | exact ih3 _ _ _ _
   | exact ih4 _ _ _ _
   | exact ih5 _ _ _ _ _
   | exact plait_Arches.mono _ _
   | exact plait_Bend.mono _ _ _
   | exact plait_Is.mono _ _
   | exact plait_Power.mono _ _
   | exact plait_Product.mono _ _ _
   | exact pomadelaw07_same.mono _ _ _
   | exact pomaderef07_Diagram.mono _ _
   | exact LeO.none _
   | refine LeO.ite ?_ ?_
   | refine LeO.bind ?_ (fun _ => ?_)
theorem pomadelaw07_PlaitBent.mono : ∀ a0 a1 k, LeO (pomadelaw07_PlaitBent.f k a0 a1) (pomadelaw07_PlaitBent.f (k + 1) a0 a1) := by
 intro a0 a1 k
 obtain ⟨ih0, ih1, ih2, ih3, ih4, ih5⟩ := pomadelaw07_PlaitBent.mono_l k
 unfold pomadelaw07_PlaitBent.f
 repeat' first
   | (with_reducible exact ih0 _ _ _)
   | (with_reducible exact ih1 _)
   | (with_reducible exact ih2 _ _ _ _)
   | (with_reducible exact ih3 _ _ _ _)
   | (with_reducible exact ih4 _ _ _ _)
   | (with_reducible exact ih5 _ _ _ _ _)
   | (with_reducible exact plait_Arches.mono _ _)
   | (with_reducible exact plait_Bend.mono _ _ _)
   | (with_reducible exact plait_Is.mono _ _)
   | (with_reducible exact plait_Power.mono _ _)
   | (with_reducible exact plait_Product.mono _ _ _)
   | (with_reducible exact pomadelaw07_same.mono _ _ _)
   | (with_reducible exact pomaderef07_Diagram.mono _ _)
   | (with_reducible exact LeO.refl _)
   | (with_reducible exact LeO.none _)
   | (with_reducible refine LeO.ite ?_ ?_)
   | (with_reducible refine LeO.bind ?_ (fun _ => ?_))
   | exact ih0 _ _ _
   | exact ih1 _
   | exact ih2 _ _ _ _
   | exact ih3 _ _ _ _
   | exact ih4 _ _ _ _
   | exact ih5 _ _ _ _ _
   | exact plait_Arches.mono _ _
   | exact plait_Bend.mono _ _ _
   | exact plait_Is.mono _ _
   | exact plait_Power.mono _ _
   | exact plait_Product.mono _ _ _
   | exact pomadelaw07_same.mono _ _ _
   | exact pomaderef07_Diagram.mono _ _
   | exact LeO.none _
   | refine LeO.ite ?_ ?_
   | refine LeO.bind ?_ (fun _ => ?_)
set_option maxHeartbeats 8000000 in
set_option maxRecDepth 100000 in
theorem pomadelaw07_PlaitBent.calls (k : Nat) (P0_ : Nat → Prop) (A0 : Option Addr) (c0 : Nat) (l0 : List Int) (a1 : ByteArray) (r : Bool) (w : World) (hs0 : Kd.V (Kd.int .i64) 3 w w.heap.size (fun k_ => P0_ k_) (.slice A0 l0.length c0) l0) (h : pomadelaw07_PlaitBent.f k l0 a1 = some r) :
  Calls Try.prog 18 #[.slice A0 l0.length c0, .string a1] w fun e w' => e = .returned (.bool r) ∧ Below w.heap.size w w' := by
 have HO0 := Aside0.mk (show Kd.V (Kd.int .i64) 3 w w.heap.size (fun k_ => (P0_ k_ ∨ w.heap.size ≤ k_)) (.slice A0 l0.length c0) l0 from Kd.V_mono hs0 (fun k_ hk => .inl hk))
 have HB := Aside0.mk (Below.refl w.heap.size w)
 have H : (if (l0.length : Int) > 50 then (pomadelaw07_PlaitBent.j0 k l0 a1 true) else (pomadelaw07_PlaitBent.j0 k l0 a1 (decide ((a1.size : Int) > 50)))) = some r := h
 clear h
 have HC3 := Aside0.mk H
 clear H
 go_enter Try.func18, Try.ntmps18
 go_upto_region 1 with (fail)
 repeat (go_quiet (fail); go_upto_region 1 with (fail))
 go_cut [30] (fun v30 wc => ∃ (kq : Nat) (x30_2 : Bool), v30 = .bool x30_2 ∧ Aside0 (pomadelaw07_PlaitBent.j0 kq l0 a1 x30_2 = some r) ∧ Aside0 (kq ≤ k) ∧ Aside0 (Kd.V (Kd.int .i64) 3 wc w.heap.size (fun k_ => (P0_ k_ ∨ w.heap.size ≤ k_)) (.slice A0 l0.length c0) l0) ∧ Aside0 (Below w.heap.size w wc))
 case first =>
  have H := HC3.out
  clear HC3
  by_cases c4 : (l0.length : Int) > 50
  ·rw [if_pos c4] at H
   have c4b0 : decide (50 < (l0.length : Int)) = true := decide_eq_true c4
   have c4b1 : decide (50 < l0.length) = true := decide_eq_true (by omega)
   clear c4
   (first | rw [c4b0] | (simp only [i64_w, i32_w]; rw [c4b0]) | skip)
   have H' := Aside0.mk H
   clear H
   go_wp2
   repeat (go_quiet (fail); try go_wp2)
   go_meet
   case rel => exact ⟨_, (true), (by first | rfl | (simp; done) | (simp [*]; done)), H', ⟨by first | omega | exact Nat.le_refl _⟩, ⟨by (with_reducible repeat (first | apply Kd.V_alloc | apply Kd.V_drewN | apply Kd.V_drew)); exact HO0.out⟩, ⟨by repeat (first | (with_reducible first | exact HB.out | apply below_alloc | apply pw_below_drewN | apply below_drew1) | exact HB.out)⟩⟩
  ·rw [if_neg c4] at H
   have c4b0 : decide (50 < (l0.length : Int)) = false := decide_eq_false c4
   have c4b1 : decide (50 < l0.length) = false := decide_eq_false (by omega)
   clear c4
   (first | rw [c4b0] | (simp only [i64_w, i32_w]; rw [c4b0]) | skip)
   have H' := Aside0.mk H
   clear H
   go_wp2
   repeat (go_quiet (fail); try go_wp2)
   go_meet
   case rel => exact ⟨_, (decide ((a1.size : Int) > 50)), (by first | rfl | (simp; done) | (simp [*]; done)), H', ⟨by first | omega | exact Nat.le_refl _⟩, ⟨by (with_reducible repeat (first | apply Kd.V_alloc | apply Kd.V_drewN | apply Kd.V_drew)); exact HO0.out⟩, ⟨by repeat (first | (with_reducible first | exact HB.out | apply below_alloc | apply pw_below_drewN | apply below_drew1) | exact HB.out)⟩⟩
 case rest =>
  clear HC3
  try clear c1
  try clear p2
  try clear c4
  try clear c4b0
  try clear c4b1
  obtain ⟨kq, x30_2, rfl, HA, HJ2, HO_0, HB⟩ := hcut
  cases kq with
  | zero => exact absurd HA.out (by simp [pomadelaw07_PlaitBent.j0])
  | succ kj2 =>
   have H := HA.out
   clear HA
   simp only [pomadelaw07_PlaitBent.j0] at H
   by_cases c5 : x30_2 = true
   ·subst c5
    have H1 : ((pomadelaw07_alive.f).bind fun t887 => (some t887)) = some r := by rw [if_pos rfl] at H; exact H
    clear H
    have H := H1
    clear H1
    replace H := Option.bind_eq_some_iff.mp H
    obtain ⟨t887, A60, H⟩ := H
    replace H : (some t887) = some r := H
    have A6 := Aside0.mk A60
    clear A60
    obtain rfl := Option.some.inj H
    go_wp2_with (first | (go_at_call 20; (with_reducible refine (pomadelaw07_alive.calls  t887 _ A6.out).mono ?_); rintro e w7 ⟨rfl, hb⟩; have n0_ := Aside0.mk (Kd.V_below (by (with_reducible repeat (first | apply Kd.V_alloc | apply Kd.V_drewN | apply Kd.V_drew)); exact HO_0.out) hb); have n1_ := Aside0.mk (below_step (by repeat (first | (with_reducible first | exact HB.out | apply below_alloc | apply pw_below_drewN | apply below_drew1) | exact HB.out)) hb); clear HO_0; clear HB; have HO_0 := n0_; have HB := n1_; clear n0_ n1_; (try clear hb); (try clear hb2); (try clear hk); (try clear hi)))
    repeat (go_quiet (first | (go_at_call 20; (with_reducible refine (pomadelaw07_alive.calls  t887 _ A6.out).mono ?_); rintro e w7 ⟨rfl, hb⟩; have n0_ := Aside0.mk (Kd.V_below (by (with_reducible repeat (first | apply Kd.V_alloc | apply Kd.V_drewN | apply Kd.V_drew)); exact HO_0.out) hb); have n1_ := Aside0.mk (below_step (by repeat (first | (with_reducible first | exact HB.out | apply below_alloc | apply pw_below_drewN | apply below_drew1) | exact HB.out)) hb); clear HO_0; clear HB; have HO_0 := n0_; have HB := n1_; clear n0_ n1_; (try clear hb); (try clear hb2); (try clear hk); (try clear hi))); try go_wp2_with (first | (go_at_call 20; (with_reducible refine (pomadelaw07_alive.calls  t887 _ A6.out).mono ?_); rintro e w7 ⟨rfl, hb⟩; have n0_ := Aside0.mk (Kd.V_below (by (with_reducible repeat (first | apply Kd.V_alloc | apply Kd.V_drewN | apply Kd.V_drew)); exact HO_0.out) hb); have n1_ := Aside0.mk (below_step (by repeat (first | (with_reducible first | exact HB.out | apply below_alloc | apply pw_below_drewN | apply below_drew1) | exact HB.out)) hb); clear HO_0; clear HB; have HO_0 := n0_; have HB := n1_; clear n0_ n1_; (try clear hb); (try clear hb2); (try clear hk); (try clear hi))))
    go_ret
    exact ⟨by first | rfl | (simp [errW_none, errW_some] <;> rfl) | (simp [*, errW_none, errW_some] <;> rfl), by repeat (first | (with_reducible first | exact HB.out | apply below_alloc | apply pw_below_drewN | apply below_drew1) | exact HB.out)⟩
   ·replace c5 := Bool.eq_false_iff.mpr c5
    subst c5
    have H1 : ((plait_Bend.f kj2 (wrap64 ((a1.size : Int) / 2)) a1).bind fun bt888 => (if bt888.2 = 0 then ((plait_Arches.f kj2 bt888.1).bind fun bt892 => ((plait_Is.f kj2 bt888.1).bind fun bt894 => (if bt892.2 = 0 then (if bt894.2 = 0 then (if bt892.1.toList = a1.toList then (if bt894.1 = true then (pomadelaw07_PlaitBent.j1 kj2 l0) else (some false)) else (some false)) else (some false)) else (some false)))) else (pomadelaw07_PlaitBent.j1 kj2 l0))) = some r := by rw [if_neg (show ¬ (false = true) by decide)] at H; exact H
    clear H
    have H := H1
    clear H1
    replace H := Option.bind_eq_some_iff.mp H
    obtain ⟨⟨t888, t889⟩, A80, H⟩ := H
    replace H : (if t889 = 0 then ((plait_Arches.f kj2 t888).bind fun bt892 => ((plait_Is.f kj2 t888).bind fun bt894 => (if bt892.2 = 0 then (if bt894.2 = 0 then (if bt892.1.toList = a1.toList then (if bt894.1 = true then (pomadelaw07_PlaitBent.j1 kj2 l0) else (some false)) else (some false)) else (some false)) else (some false)))) else (pomadelaw07_PlaitBent.j1 kj2 l0)) = some r := H
    have A8 := Aside0.mk A80
    clear A80
    have HC9 := Aside0.mk H
    clear H
    go_upto_if 41 with (first | (go_at_call 40; (with_reducible refine (plait_Bend.calls kj2 (wrap64 ((a1.size : Int) / 2)) a1 t888 t889 _ A8.out).mono ?_); rintro e w10 ⟨v890, rfl, ho0, hb⟩; have n0_ := Aside0.mk (Kd.V_elder' (by (with_reducible repeat (first | apply Kd.V_alloc | apply Kd.V_drewN | apply Kd.V_drew)); exact HO_0.out) (Kd.R_base ho0) hb); have n1_ := Aside0.mk (Kd.R_lower (Kd.R_newM (M := fun k_ => (w.heap.size ≤ k_)) ho0 (below_size (by repeat (first | (with_reducible first | exact HB.out | apply below_alloc | apply pw_below_drewN | apply below_drew1) | exact HB.out))) (fun k_ h_ => h_)) (below_size (by repeat (first | (with_reducible first | exact HB.out | apply below_alloc | apply pw_below_drewN | apply below_drew1) | exact HB.out)))); have n2_ := Aside0.mk (below_step (by repeat (first | (with_reducible first | exact HB.out | apply below_alloc | apply pw_below_drewN | apply below_drew1) | exact HB.out)) hb); clear HO_0; clear HB; have HO_0 := n0_; have HO891 := n1_; have HB := n2_; clear n0_ n1_ n2_; (try clear hb); (try clear hb2); (try clear hk); (try clear hi); (try clear ho0)))
    repeat (go_quiet (first | (go_at_call 40; (with_reducible refine (plait_Bend.calls kj2 (wrap64 ((a1.size : Int) / 2)) a1 t888 t889 _ A8.out).mono ?_); rintro e w10 ⟨v890, rfl, ho0, hb⟩; have n0_ := Aside0.mk (Kd.V_elder' (by (with_reducible repeat (first | apply Kd.V_alloc | apply Kd.V_drewN | apply Kd.V_drew)); exact HO_0.out) (Kd.R_base ho0) hb); have n1_ := Aside0.mk (Kd.R_lower (Kd.R_newM (M := fun k_ => (w.heap.size ≤ k_)) ho0 (below_size (by repeat (first | (with_reducible first | exact HB.out | apply below_alloc | apply pw_below_drewN | apply below_drew1) | exact HB.out))) (fun k_ h_ => h_)) (below_size (by repeat (first | (with_reducible first | exact HB.out | apply below_alloc | apply pw_below_drewN | apply below_drew1) | exact HB.out)))); have n2_ := Aside0.mk (below_step (by repeat (first | (with_reducible first | exact HB.out | apply below_alloc | apply pw_below_drewN | apply below_drew1) | exact HB.out)) hb); clear HO_0; clear HB; have HO_0 := n0_; have HO891 := n1_; have HB := n2_; clear n0_ n1_ n2_; (try clear hb); (try clear hb2); (try clear hk); (try clear hi); (try clear ho0))); go_upto_if 41 with (first | (go_at_call 40; (with_reducible refine (plait_Bend.calls kj2 (wrap64 ((a1.size : Int) / 2)) a1 t888 t889 _ A8.out).mono ?_); rintro e w10 ⟨v890, rfl, ho0, hb⟩; have n0_ := Aside0.mk (Kd.V_elder' (by (with_reducible repeat (first | apply Kd.V_alloc | apply Kd.V_drewN | apply Kd.V_drew)); exact HO_0.out) (Kd.R_base ho0) hb); have n1_ := Aside0.mk (Kd.R_lower (Kd.R_newM (M := fun k_ => (w.heap.size ≤ k_)) ho0 (below_size (by repeat (first | (with_reducible first | exact HB.out | apply below_alloc | apply pw_below_drewN | apply below_drew1) | exact HB.out))) (fun k_ h_ => h_)) (below_size (by repeat (first | (with_reducible first | exact HB.out | apply below_alloc | apply pw_below_drewN | apply below_drew1) | exact HB.out)))); have n2_ := Aside0.mk (below_step (by repeat (first | (with_reducible first | exact HB.out | apply below_alloc | apply pw_below_drewN | apply below_drew1) | exact HB.out)) hb); clear HO_0; clear HB; have HO_0 := n0_; have HO891 := n1_; have HB := n2_; clear n0_ n1_ n2_; (try clear hb); (try clear hb2); (try clear hk); (try clear hi); (try clear ho0))))
    (try simp only [Act.put, List.setIfInBounds_toArray, List.set_cons_zero, List.set_cons_succ])
    go_cut [] (fun wc => ∃ (kq : Nat), Aside0 (pomadelaw07_PlaitBent.j1 kq l0 = some r) ∧ Aside0 (kq ≤ kj2) ∧ Aside0 (Kd.V (Kd.int .i64) 3 wc w.heap.size (fun k_ => (P0_ k_ ∨ w.heap.size ≤ k_)) (.slice A0 l0.length c0) l0) ∧ Aside0 (Below w.heap.size w wc))
    case first =>
     have H := HC9.out
     clear HC9
     by_cases c11 : t889 = 0
     ·rw [if_pos c11] at H
      have c11b0 : (t889 == 0) = true := beq_iff_eq.mpr c11
      have c11b1 : (t889 != 0) = false := bne_eq_false_iff_eq.mpr c11
      clear c11
      (first | rw [c11b0] | (simp only [i64_w, i32_w]; rw [c11b0]) | skip)
      replace H := Option.bind_eq_some_iff.mp H
      obtain ⟨⟨t892, t893⟩, A120, H⟩ := H
      replace H : ((plait_Is.f kj2 t888).bind fun bt894 => (if t893 = 0 then (if bt894.2 = 0 then (if t892.toList = a1.toList then (if bt894.1 = true then (pomadelaw07_PlaitBent.j1 kj2 l0) else (some false)) else (some false)) else (some false)) else (some false))) = some r := H
      have A12 := Aside0.mk A120
      clear A120
      replace H := Option.bind_eq_some_iff.mp H
      obtain ⟨⟨t894, t895⟩, A130, H⟩ := H
      replace H : (if t893 = 0 then (if t895 = 0 then (if t892.toList = a1.toList then (if t894 = true then (pomadelaw07_PlaitBent.j1 kj2 l0) else (some false)) else (some false)) else (some false)) else (some false)) = some r := H
      have A13 := Aside0.mk A130
      clear A130
      by_cases c14 : t893 = 0
      ·rw [if_pos c14] at H
       have c14b0 : (t893 == 0) = true := beq_iff_eq.mpr c14
       have c14b1 : (t893 != 0) = false := bne_eq_false_iff_eq.mpr c14
       clear c14
       by_cases c15 : t895 = 0
       ·rw [if_pos c15] at H
        have c15b0 : (t895 == 0) = true := beq_iff_eq.mpr c15
        have c15b1 : (t895 != 0) = false := bne_eq_false_iff_eq.mpr c15
        clear c15
        by_cases c16 : t892.toList = a1.toList
        ·rw [if_pos c16] at H
         have c16b0 : (t892.toList == a1.toList) = true := beq_iff_eq.mpr c16
         have c16b1 : (t892.toList != a1.toList) = false := bne_eq_false_iff_eq.mpr c16
         clear c16
         by_cases c17 : t894 = true
         ·subst c17
          have H1 : (pomadelaw07_PlaitBent.j1 kj2 l0) = some r := by rw [if_pos rfl] at H; exact H
          clear H
          have H := H1
          clear H1
          have H' := Aside0.mk H
          clear H
          obtain ⟨Ao18, co18, eo18⟩ := Kd.R_slice HO891.out
          subst eo18
          go_wp2_with (first | (go_at_call 42; (with_reducible refine (plait_Arches.calls kj2 _ _ t888 t892 t893 _ ?side1 ?side2 A12.out).mono ?_); (case side1 => repeat (first | exact (Kd.R_reads' HO891.out).2.2 | (with_reducible refine Kd.C_alloc ?_ _) | (with_reducible refine Kd.C_drewN ?_ _) | (with_reducible refine Kd.C_drew ?_))); (case side2 => exact (Kd.R_reads' HO891.out).2.1); rintro e w19 ⟨rfl, hb⟩; have n0_ := Aside0.mk (Kd.V_below (by (with_reducible repeat (first | apply Kd.V_alloc | apply Kd.V_drewN | apply Kd.V_drew)); exact HO_0.out) hb); have n1_ := Aside0.mk (Kd.R_below (by (with_reducible repeat (first | apply Kd.R_alloc | apply Kd.R_drewN | apply Kd.R_drew)); exact HO891.out) hb); have n2_ := Aside0.mk (below_step (by repeat (first | (with_reducible first | exact HB.out | apply below_alloc | apply pw_below_drewN | apply below_drew1) | exact HB.out)) hb); clear HO_0; clear HO891; clear HB; have HO_0 := n0_; have HO891 := n1_; have HB := n2_; clear n0_ n1_ n2_; (try clear hb); (try clear hb2); (try clear hk); (try clear hi)) | (go_at_call 31; (with_reducible refine (plait_Is.calls kj2 _ _ t888 true t895 _ ?side1 ?side2 A13.out).mono ?_); (case side1 => repeat (first | exact (Kd.R_reads' HO891.out).2.2 | (with_reducible refine Kd.C_alloc ?_ _) | (with_reducible refine Kd.C_drewN ?_ _) | (with_reducible refine Kd.C_drew ?_))); (case side2 => exact (Kd.R_reads' HO891.out).2.1); rintro e w20 ⟨rfl, hb⟩; have n0_ := Aside0.mk (Kd.V_below (by (with_reducible repeat (first | apply Kd.V_alloc | apply Kd.V_drewN | apply Kd.V_drew)); exact HO_0.out) hb); have n1_ := Aside0.mk (Kd.R_below (by (with_reducible repeat (first | apply Kd.R_alloc | apply Kd.R_drewN | apply Kd.R_drew)); exact HO891.out) hb); have n2_ := Aside0.mk (below_step (by repeat (first | (with_reducible first | exact HB.out | apply below_alloc | apply pw_below_drewN | apply below_drew1) | exact HB.out)) hb); clear HO_0; clear HO891; clear HB; have HO_0 := n0_; have HO891 := n1_; have HB := n2_; clear n0_ n1_ n2_; (try clear hb); (try clear hb2); (try clear hk); (try clear hi)))
          repeat (go_quiet (first | (go_at_call 42; (with_reducible refine (plait_Arches.calls kj2 _ _ t888 t892 t893 _ ?side1 ?side2 A12.out).mono ?_); (case side1 => repeat (first | exact (Kd.R_reads' HO891.out).2.2 | (with_reducible refine Kd.C_alloc ?_ _) | (with_reducible refine Kd.C_drewN ?_ _) | (with_reducible refine Kd.C_drew ?_))); (case side2 => exact (Kd.R_reads' HO891.out).2.1); rintro e w19 ⟨rfl, hb⟩; have n0_ := Aside0.mk (Kd.V_below (by (with_reducible repeat (first | apply Kd.V_alloc | apply Kd.V_drewN | apply Kd.V_drew)); exact HO_0.out) hb); have n1_ := Aside0.mk (Kd.R_below (by (with_reducible repeat (first | apply Kd.R_alloc | apply Kd.R_drewN | apply Kd.R_drew)); exact HO891.out) hb); have n2_ := Aside0.mk (below_step (by repeat (first | (with_reducible first | exact HB.out | apply below_alloc | apply pw_below_drewN | apply below_drew1) | exact HB.out)) hb); clear HO_0; clear HO891; clear HB; have HO_0 := n0_; have HO891 := n1_; have HB := n2_; clear n0_ n1_ n2_; (try clear hb); (try clear hb2); (try clear hk); (try clear hi)) | (go_at_call 31; (with_reducible refine (plait_Is.calls kj2 _ _ t888 true t895 _ ?side1 ?side2 A13.out).mono ?_); (case side1 => repeat (first | exact (Kd.R_reads' HO891.out).2.2 | (with_reducible refine Kd.C_alloc ?_ _) | (with_reducible refine Kd.C_drewN ?_ _) | (with_reducible refine Kd.C_drew ?_))); (case side2 => exact (Kd.R_reads' HO891.out).2.1); rintro e w20 ⟨rfl, hb⟩; have n0_ := Aside0.mk (Kd.V_below (by (with_reducible repeat (first | apply Kd.V_alloc | apply Kd.V_drewN | apply Kd.V_drew)); exact HO_0.out) hb); have n1_ := Aside0.mk (Kd.R_below (by (with_reducible repeat (first | apply Kd.R_alloc | apply Kd.R_drewN | apply Kd.R_drew)); exact HO891.out) hb); have n2_ := Aside0.mk (below_step (by repeat (first | (with_reducible first | exact HB.out | apply below_alloc | apply pw_below_drewN | apply below_drew1) | exact HB.out)) hb); clear HO_0; clear HO891; clear HB; have HO_0 := n0_; have HO891 := n1_; have HB := n2_; clear n0_ n1_ n2_; (try clear hb); (try clear hb2); (try clear hk); (try clear hi))); try go_wp2_with (first | (go_at_call 42; (with_reducible refine (plait_Arches.calls kj2 _ _ t888 t892 t893 _ ?side1 ?side2 A12.out).mono ?_); (case side1 => repeat (first | exact (Kd.R_reads' HO891.out).2.2 | (with_reducible refine Kd.C_alloc ?_ _) | (with_reducible refine Kd.C_drewN ?_ _) | (with_reducible refine Kd.C_drew ?_))); (case side2 => exact (Kd.R_reads' HO891.out).2.1); rintro e w19 ⟨rfl, hb⟩; have n0_ := Aside0.mk (Kd.V_below (by (with_reducible repeat (first | apply Kd.V_alloc | apply Kd.V_drewN | apply Kd.V_drew)); exact HO_0.out) hb); have n1_ := Aside0.mk (Kd.R_below (by (with_reducible repeat (first | apply Kd.R_alloc | apply Kd.R_drewN | apply Kd.R_drew)); exact HO891.out) hb); have n2_ := Aside0.mk (below_step (by repeat (first | (with_reducible first | exact HB.out | apply below_alloc | apply pw_below_drewN | apply below_drew1) | exact HB.out)) hb); clear HO_0; clear HO891; clear HB; have HO_0 := n0_; have HO891 := n1_; have HB := n2_; clear n0_ n1_ n2_; (try clear hb); (try clear hb2); (try clear hk); (try clear hi)) | (go_at_call 31; (with_reducible refine (plait_Is.calls kj2 _ _ t888 true t895 _ ?side1 ?side2 A13.out).mono ?_); (case side1 => repeat (first | exact (Kd.R_reads' HO891.out).2.2 | (with_reducible refine Kd.C_alloc ?_ _) | (with_reducible refine Kd.C_drewN ?_ _) | (with_reducible refine Kd.C_drew ?_))); (case side2 => exact (Kd.R_reads' HO891.out).2.1); rintro e w20 ⟨rfl, hb⟩; have n0_ := Aside0.mk (Kd.V_below (by (with_reducible repeat (first | apply Kd.V_alloc | apply Kd.V_drewN | apply Kd.V_drew)); exact HO_0.out) hb); have n1_ := Aside0.mk (Kd.R_below (by (with_reducible repeat (first | apply Kd.R_alloc | apply Kd.R_drewN | apply Kd.R_drew)); exact HO891.out) hb); have n2_ := Aside0.mk (below_step (by repeat (first | (with_reducible first | exact HB.out | apply below_alloc | apply pw_below_drewN | apply below_drew1) | exact HB.out)) hb); clear HO_0; clear HO891; clear HB; have HO_0 := n0_; have HO891 := n1_; have HB := n2_; clear n0_ n1_ n2_; (try clear hb); (try clear hb2); (try clear hk); (try clear hi))))
          go_meet
          case rel => exact ⟨_, H', ⟨by have := HJ2.out; first | omega | exact Nat.le_refl _⟩, ⟨by (with_reducible repeat (first | apply Kd.V_alloc | apply Kd.V_drewN | apply Kd.V_drew)); exact Kd.V_mono HO_0.out (fun _ hk => hk.1)⟩, ⟨by repeat (first | (with_reducible first | exact HB.out | apply below_alloc | apply pw_below_drewN | apply below_drew1) | exact HB.out)⟩⟩
         ·replace c17 := Bool.eq_false_iff.mpr c17
          subst c17
          have H1 : (some false) = some r := by rw [if_neg (show ¬ (false = true) by decide)] at H; exact H
          clear H
          have H := H1
          clear H1
          obtain rfl := Option.some.inj H
          obtain ⟨Ao21, co21, eo21⟩ := Kd.R_slice HO891.out
          subst eo21
          go_wp2_with (first | (go_at_call 42; (with_reducible refine (plait_Arches.calls kj2 _ _ t888 t892 t893 _ ?side1 ?side2 A12.out).mono ?_); (case side1 => repeat (first | exact (Kd.R_reads' HO891.out).2.2 | (with_reducible refine Kd.C_alloc ?_ _) | (with_reducible refine Kd.C_drewN ?_ _) | (with_reducible refine Kd.C_drew ?_))); (case side2 => exact (Kd.R_reads' HO891.out).2.1); rintro e w22 ⟨rfl, hb⟩; have n0_ := Aside0.mk (Kd.V_below (by (with_reducible repeat (first | apply Kd.V_alloc | apply Kd.V_drewN | apply Kd.V_drew)); exact HO_0.out) hb); have n1_ := Aside0.mk (Kd.R_below (by (with_reducible repeat (first | apply Kd.R_alloc | apply Kd.R_drewN | apply Kd.R_drew)); exact HO891.out) hb); have n2_ := Aside0.mk (below_step (by repeat (first | (with_reducible first | exact HB.out | apply below_alloc | apply pw_below_drewN | apply below_drew1) | exact HB.out)) hb); clear HO_0; clear HO891; clear HB; have HO_0 := n0_; have HO891 := n1_; have HB := n2_; clear n0_ n1_ n2_; (try clear hb); (try clear hb2); (try clear hk); (try clear hi)) | (go_at_call 31; (with_reducible refine (plait_Is.calls kj2 _ _ t888 false t895 _ ?side1 ?side2 A13.out).mono ?_); (case side1 => repeat (first | exact (Kd.R_reads' HO891.out).2.2 | (with_reducible refine Kd.C_alloc ?_ _) | (with_reducible refine Kd.C_drewN ?_ _) | (with_reducible refine Kd.C_drew ?_))); (case side2 => exact (Kd.R_reads' HO891.out).2.1); rintro e w23 ⟨rfl, hb⟩; have n0_ := Aside0.mk (Kd.V_below (by (with_reducible repeat (first | apply Kd.V_alloc | apply Kd.V_drewN | apply Kd.V_drew)); exact HO_0.out) hb); have n1_ := Aside0.mk (Kd.R_below (by (with_reducible repeat (first | apply Kd.R_alloc | apply Kd.R_drewN | apply Kd.R_drew)); exact HO891.out) hb); have n2_ := Aside0.mk (below_step (by repeat (first | (with_reducible first | exact HB.out | apply below_alloc | apply pw_below_drewN | apply below_drew1) | exact HB.out)) hb); clear HO_0; clear HO891; clear HB; have HO_0 := n0_; have HO891 := n1_; have HB := n2_; clear n0_ n1_ n2_; (try clear hb); (try clear hb2); (try clear hk); (try clear hi)))
          repeat (go_quiet (first | (go_at_call 42; (with_reducible refine (plait_Arches.calls kj2 _ _ t888 t892 t893 _ ?side1 ?side2 A12.out).mono ?_); (case side1 => repeat (first | exact (Kd.R_reads' HO891.out).2.2 | (with_reducible refine Kd.C_alloc ?_ _) | (with_reducible refine Kd.C_drewN ?_ _) | (with_reducible refine Kd.C_drew ?_))); (case side2 => exact (Kd.R_reads' HO891.out).2.1); rintro e w22 ⟨rfl, hb⟩; have n0_ := Aside0.mk (Kd.V_below (by (with_reducible repeat (first | apply Kd.V_alloc | apply Kd.V_drewN | apply Kd.V_drew)); exact HO_0.out) hb); have n1_ := Aside0.mk (Kd.R_below (by (with_reducible repeat (first | apply Kd.R_alloc | apply Kd.R_drewN | apply Kd.R_drew)); exact HO891.out) hb); have n2_ := Aside0.mk (below_step (by repeat (first | (with_reducible first | exact HB.out | apply below_alloc | apply pw_below_drewN | apply below_drew1) | exact HB.out)) hb); clear HO_0; clear HO891; clear HB; have HO_0 := n0_; have HO891 := n1_; have HB := n2_; clear n0_ n1_ n2_; (try clear hb); (try clear hb2); (try clear hk); (try clear hi)) | (go_at_call 31; (with_reducible refine (plait_Is.calls kj2 _ _ t888 false t895 _ ?side1 ?side2 A13.out).mono ?_); (case side1 => repeat (first | exact (Kd.R_reads' HO891.out).2.2 | (with_reducible refine Kd.C_alloc ?_ _) | (with_reducible refine Kd.C_drewN ?_ _) | (with_reducible refine Kd.C_drew ?_))); (case side2 => exact (Kd.R_reads' HO891.out).2.1); rintro e w23 ⟨rfl, hb⟩; have n0_ := Aside0.mk (Kd.V_below (by (with_reducible repeat (first | apply Kd.V_alloc | apply Kd.V_drewN | apply Kd.V_drew)); exact HO_0.out) hb); have n1_ := Aside0.mk (Kd.R_below (by (with_reducible repeat (first | apply Kd.R_alloc | apply Kd.R_drewN | apply Kd.R_drew)); exact HO891.out) hb); have n2_ := Aside0.mk (below_step (by repeat (first | (with_reducible first | exact HB.out | apply below_alloc | apply pw_below_drewN | apply below_drew1) | exact HB.out)) hb); clear HO_0; clear HO891; clear HB; have HO_0 := n0_; have HO891 := n1_; have HB := n2_; clear n0_ n1_ n2_; (try clear hb); (try clear hb2); (try clear hk); (try clear hi))); try go_wp2_with (first | (go_at_call 42; (with_reducible refine (plait_Arches.calls kj2 _ _ t888 t892 t893 _ ?side1 ?side2 A12.out).mono ?_); (case side1 => repeat (first | exact (Kd.R_reads' HO891.out).2.2 | (with_reducible refine Kd.C_alloc ?_ _) | (with_reducible refine Kd.C_drewN ?_ _) | (with_reducible refine Kd.C_drew ?_))); (case side2 => exact (Kd.R_reads' HO891.out).2.1); rintro e w22 ⟨rfl, hb⟩; have n0_ := Aside0.mk (Kd.V_below (by (with_reducible repeat (first | apply Kd.V_alloc | apply Kd.V_drewN | apply Kd.V_drew)); exact HO_0.out) hb); have n1_ := Aside0.mk (Kd.R_below (by (with_reducible repeat (first | apply Kd.R_alloc | apply Kd.R_drewN | apply Kd.R_drew)); exact HO891.out) hb); have n2_ := Aside0.mk (below_step (by repeat (first | (with_reducible first | exact HB.out | apply below_alloc | apply pw_below_drewN | apply below_drew1) | exact HB.out)) hb); clear HO_0; clear HO891; clear HB; have HO_0 := n0_; have HO891 := n1_; have HB := n2_; clear n0_ n1_ n2_; (try clear hb); (try clear hb2); (try clear hk); (try clear hi)) | (go_at_call 31; (with_reducible refine (plait_Is.calls kj2 _ _ t888 false t895 _ ?side1 ?side2 A13.out).mono ?_); (case side1 => repeat (first | exact (Kd.R_reads' HO891.out).2.2 | (with_reducible refine Kd.C_alloc ?_ _) | (with_reducible refine Kd.C_drewN ?_ _) | (with_reducible refine Kd.C_drew ?_))); (case side2 => exact (Kd.R_reads' HO891.out).2.1); rintro e w23 ⟨rfl, hb⟩; have n0_ := Aside0.mk (Kd.V_below (by (with_reducible repeat (first | apply Kd.V_alloc | apply Kd.V_drewN | apply Kd.V_drew)); exact HO_0.out) hb); have n1_ := Aside0.mk (Kd.R_below (by (with_reducible repeat (first | apply Kd.R_alloc | apply Kd.R_drewN | apply Kd.R_drew)); exact HO891.out) hb); have n2_ := Aside0.mk (below_step (by repeat (first | (with_reducible first | exact HB.out | apply below_alloc | apply pw_below_drewN | apply below_drew1) | exact HB.out)) hb); clear HO_0; clear HO891; clear HB; have HO_0 := n0_; have HO891 := n1_; have HB := n2_; clear n0_ n1_ n2_; (try clear hb); (try clear hb2); (try clear hk); (try clear hi))))
          go_ret
          exact ⟨by first | rfl | (simp [errW_none, errW_some] <;> rfl) | (simp [*, errW_none, errW_some] <;> rfl), by repeat (first | (with_reducible first | exact HB.out | apply below_alloc | apply pw_below_drewN | apply below_drew1) | exact HB.out)⟩
        ·rw [if_neg c16] at H
         have c16b0 : (t892.toList == a1.toList) = false := beq_eq_false_iff_ne.mpr c16
         have c16b1 : (t892.toList != a1.toList) = true := bne_iff_ne.mpr c16
         obtain rfl := Option.some.inj H
         obtain ⟨Ao24, co24, eo24⟩ := Kd.R_slice HO891.out
         subst eo24
         go_wp2_with (first | (go_at_call 42; (with_reducible refine (plait_Arches.calls kj2 _ _ t888 t892 t893 _ ?side1 ?side2 A12.out).mono ?_); (case side1 => repeat (first | exact (Kd.R_reads' HO891.out).2.2 | (with_reducible refine Kd.C_alloc ?_ _) | (with_reducible refine Kd.C_drewN ?_ _) | (with_reducible refine Kd.C_drew ?_))); (case side2 => exact (Kd.R_reads' HO891.out).2.1); rintro e w25 ⟨rfl, hb⟩; have n0_ := Aside0.mk (Kd.V_below (by (with_reducible repeat (first | apply Kd.V_alloc | apply Kd.V_drewN | apply Kd.V_drew)); exact HO_0.out) hb); have n1_ := Aside0.mk (Kd.R_below (by (with_reducible repeat (first | apply Kd.R_alloc | apply Kd.R_drewN | apply Kd.R_drew)); exact HO891.out) hb); have n2_ := Aside0.mk (below_step (by repeat (first | (with_reducible first | exact HB.out | apply below_alloc | apply pw_below_drewN | apply below_drew1) | exact HB.out)) hb); clear HO_0; clear HO891; clear HB; have HO_0 := n0_; have HO891 := n1_; have HB := n2_; clear n0_ n1_ n2_; (try clear hb); (try clear hb2); (try clear hk); (try clear hi)) | (go_at_call 31; (with_reducible refine (plait_Is.calls kj2 _ _ t888 t894 t895 _ ?side1 ?side2 A13.out).mono ?_); (case side1 => repeat (first | exact (Kd.R_reads' HO891.out).2.2 | (with_reducible refine Kd.C_alloc ?_ _) | (with_reducible refine Kd.C_drewN ?_ _) | (with_reducible refine Kd.C_drew ?_))); (case side2 => exact (Kd.R_reads' HO891.out).2.1); rintro e w26 ⟨rfl, hb⟩; have n0_ := Aside0.mk (Kd.V_below (by (with_reducible repeat (first | apply Kd.V_alloc | apply Kd.V_drewN | apply Kd.V_drew)); exact HO_0.out) hb); have n1_ := Aside0.mk (Kd.R_below (by (with_reducible repeat (first | apply Kd.R_alloc | apply Kd.R_drewN | apply Kd.R_drew)); exact HO891.out) hb); have n2_ := Aside0.mk (below_step (by repeat (first | (with_reducible first | exact HB.out | apply below_alloc | apply pw_below_drewN | apply below_drew1) | exact HB.out)) hb); clear HO_0; clear HO891; clear HB; have HO_0 := n0_; have HO891 := n1_; have HB := n2_; clear n0_ n1_ n2_; (try clear hb); (try clear hb2); (try clear hk); (try clear hi)))
         repeat (go_quiet (first | (go_at_call 42; (with_reducible refine (plait_Arches.calls kj2 _ _ t888 t892 t893 _ ?side1 ?side2 A12.out).mono ?_); (case side1 => repeat (first | exact (Kd.R_reads' HO891.out).2.2 | (with_reducible refine Kd.C_alloc ?_ _) | (with_reducible refine Kd.C_drewN ?_ _) | (with_reducible refine Kd.C_drew ?_))); (case side2 => exact (Kd.R_reads' HO891.out).2.1); rintro e w25 ⟨rfl, hb⟩; have n0_ := Aside0.mk (Kd.V_below (by (with_reducible repeat (first | apply Kd.V_alloc | apply Kd.V_drewN | apply Kd.V_drew)); exact HO_0.out) hb); have n1_ := Aside0.mk (Kd.R_below (by (with_reducible repeat (first | apply Kd.R_alloc | apply Kd.R_drewN | apply Kd.R_drew)); exact HO891.out) hb); have n2_ := Aside0.mk (below_step (by repeat (first | (with_reducible first | exact HB.out | apply below_alloc | apply pw_below_drewN | apply below_drew1) | exact HB.out)) hb); clear HO_0; clear HO891; clear HB; have HO_0 := n0_; have HO891 := n1_; have HB := n2_; clear n0_ n1_ n2_; (try clear hb); (try clear hb2); (try clear hk); (try clear hi)) | (go_at_call 31; (with_reducible refine (plait_Is.calls kj2 _ _ t888 t894 t895 _ ?side1 ?side2 A13.out).mono ?_); (case side1 => repeat (first | exact (Kd.R_reads' HO891.out).2.2 | (with_reducible refine Kd.C_alloc ?_ _) | (with_reducible refine Kd.C_drewN ?_ _) | (with_reducible refine Kd.C_drew ?_))); (case side2 => exact (Kd.R_reads' HO891.out).2.1); rintro e w26 ⟨rfl, hb⟩; have n0_ := Aside0.mk (Kd.V_below (by (with_reducible repeat (first | apply Kd.V_alloc | apply Kd.V_drewN | apply Kd.V_drew)); exact HO_0.out) hb); have n1_ := Aside0.mk (Kd.R_below (by (with_reducible repeat (first | apply Kd.R_alloc | apply Kd.R_drewN | apply Kd.R_drew)); exact HO891.out) hb); have n2_ := Aside0.mk (below_step (by repeat (first | (with_reducible first | exact HB.out | apply below_alloc | apply pw_below_drewN | apply below_drew1) | exact HB.out)) hb); clear HO_0; clear HO891; clear HB; have HO_0 := n0_; have HO891 := n1_; have HB := n2_; clear n0_ n1_ n2_; (try clear hb); (try clear hb2); (try clear hk); (try clear hi))); try go_wp2_with (first | (go_at_call 42; (with_reducible refine (plait_Arches.calls kj2 _ _ t888 t892 t893 _ ?side1 ?side2 A12.out).mono ?_); (case side1 => repeat (first | exact (Kd.R_reads' HO891.out).2.2 | (with_reducible refine Kd.C_alloc ?_ _) | (with_reducible refine Kd.C_drewN ?_ _) | (with_reducible refine Kd.C_drew ?_))); (case side2 => exact (Kd.R_reads' HO891.out).2.1); rintro e w25 ⟨rfl, hb⟩; have n0_ := Aside0.mk (Kd.V_below (by (with_reducible repeat (first | apply Kd.V_alloc | apply Kd.V_drewN | apply Kd.V_drew)); exact HO_0.out) hb); have n1_ := Aside0.mk (Kd.R_below (by (with_reducible repeat (first | apply Kd.R_alloc | apply Kd.R_drewN | apply Kd.R_drew)); exact HO891.out) hb); have n2_ := Aside0.mk (below_step (by repeat (first | (with_reducible first | exact HB.out | apply below_alloc | apply pw_below_drewN | apply below_drew1) | exact HB.out)) hb); clear HO_0; clear HO891; clear HB; have HO_0 := n0_; have HO891 := n1_; have HB := n2_; clear n0_ n1_ n2_; (try clear hb); (try clear hb2); (try clear hk); (try clear hi)) | (go_at_call 31; (with_reducible refine (plait_Is.calls kj2 _ _ t888 t894 t895 _ ?side1 ?side2 A13.out).mono ?_); (case side1 => repeat (first | exact (Kd.R_reads' HO891.out).2.2 | (with_reducible refine Kd.C_alloc ?_ _) | (with_reducible refine Kd.C_drewN ?_ _) | (with_reducible refine Kd.C_drew ?_))); (case side2 => exact (Kd.R_reads' HO891.out).2.1); rintro e w26 ⟨rfl, hb⟩; have n0_ := Aside0.mk (Kd.V_below (by (with_reducible repeat (first | apply Kd.V_alloc | apply Kd.V_drewN | apply Kd.V_drew)); exact HO_0.out) hb); have n1_ := Aside0.mk (Kd.R_below (by (with_reducible repeat (first | apply Kd.R_alloc | apply Kd.R_drewN | apply Kd.R_drew)); exact HO891.out) hb); have n2_ := Aside0.mk (below_step (by repeat (first | (with_reducible first | exact HB.out | apply below_alloc | apply pw_below_drewN | apply below_drew1) | exact HB.out)) hb); clear HO_0; clear HO891; clear HB; have HO_0 := n0_; have HO891 := n1_; have HB := n2_; clear n0_ n1_ n2_; (try clear hb); (try clear hb2); (try clear hk); (try clear hi))))
         go_ret
         exact ⟨by first | rfl | (simp [errW_none, errW_some] <;> rfl) | (simp [*, errW_none, errW_some] <;> rfl), by repeat (first | (with_reducible first | exact HB.out | apply below_alloc | apply pw_below_drewN | apply below_drew1) | exact HB.out)⟩
       ·rw [if_neg c15] at H
        have c15b0 : (t895 == 0) = false := beq_eq_false_iff_ne.mpr c15
        have c15b1 : (t895 != 0) = true := bne_iff_ne.mpr c15
        obtain rfl := Option.some.inj H
        obtain ⟨Ao27, co27, eo27⟩ := Kd.R_slice HO891.out
        subst eo27
        go_wp2_with (first | (go_at_call 42; (with_reducible refine (plait_Arches.calls kj2 _ _ t888 t892 t893 _ ?side1 ?side2 A12.out).mono ?_); (case side1 => repeat (first | exact (Kd.R_reads' HO891.out).2.2 | (with_reducible refine Kd.C_alloc ?_ _) | (with_reducible refine Kd.C_drewN ?_ _) | (with_reducible refine Kd.C_drew ?_))); (case side2 => exact (Kd.R_reads' HO891.out).2.1); rintro e w28 ⟨rfl, hb⟩; have n0_ := Aside0.mk (Kd.V_below (by (with_reducible repeat (first | apply Kd.V_alloc | apply Kd.V_drewN | apply Kd.V_drew)); exact HO_0.out) hb); have n1_ := Aside0.mk (Kd.R_below (by (with_reducible repeat (first | apply Kd.R_alloc | apply Kd.R_drewN | apply Kd.R_drew)); exact HO891.out) hb); have n2_ := Aside0.mk (below_step (by repeat (first | (with_reducible first | exact HB.out | apply below_alloc | apply pw_below_drewN | apply below_drew1) | exact HB.out)) hb); clear HO_0; clear HO891; clear HB; have HO_0 := n0_; have HO891 := n1_; have HB := n2_; clear n0_ n1_ n2_; (try clear hb); (try clear hb2); (try clear hk); (try clear hi)) | (go_at_call 31; (with_reducible refine (plait_Is.calls kj2 _ _ t888 t894 t895 _ ?side1 ?side2 A13.out).mono ?_); (case side1 => repeat (first | exact (Kd.R_reads' HO891.out).2.2 | (with_reducible refine Kd.C_alloc ?_ _) | (with_reducible refine Kd.C_drewN ?_ _) | (with_reducible refine Kd.C_drew ?_))); (case side2 => exact (Kd.R_reads' HO891.out).2.1); rintro e w29 ⟨rfl, hb⟩; have n0_ := Aside0.mk (Kd.V_below (by (with_reducible repeat (first | apply Kd.V_alloc | apply Kd.V_drewN | apply Kd.V_drew)); exact HO_0.out) hb); have n1_ := Aside0.mk (Kd.R_below (by (with_reducible repeat (first | apply Kd.R_alloc | apply Kd.R_drewN | apply Kd.R_drew)); exact HO891.out) hb); have n2_ := Aside0.mk (below_step (by repeat (first | (with_reducible first | exact HB.out | apply below_alloc | apply pw_below_drewN | apply below_drew1) | exact HB.out)) hb); clear HO_0; clear HO891; clear HB; have HO_0 := n0_; have HO891 := n1_; have HB := n2_; clear n0_ n1_ n2_; (try clear hb); (try clear hb2); (try clear hk); (try clear hi)))
        repeat (go_quiet (first | (go_at_call 42; (with_reducible refine (plait_Arches.calls kj2 _ _ t888 t892 t893 _ ?side1 ?side2 A12.out).mono ?_); (case side1 => repeat (first | exact (Kd.R_reads' HO891.out).2.2 | (with_reducible refine Kd.C_alloc ?_ _) | (with_reducible refine Kd.C_drewN ?_ _) | (with_reducible refine Kd.C_drew ?_))); (case side2 => exact (Kd.R_reads' HO891.out).2.1); rintro e w28 ⟨rfl, hb⟩; have n0_ := Aside0.mk (Kd.V_below (by (with_reducible repeat (first | apply Kd.V_alloc | apply Kd.V_drewN | apply Kd.V_drew)); exact HO_0.out) hb); have n1_ := Aside0.mk (Kd.R_below (by (with_reducible repeat (first | apply Kd.R_alloc | apply Kd.R_drewN | apply Kd.R_drew)); exact HO891.out) hb); have n2_ := Aside0.mk (below_step (by repeat (first | (with_reducible first | exact HB.out | apply below_alloc | apply pw_below_drewN | apply below_drew1) | exact HB.out)) hb); clear HO_0; clear HO891; clear HB; have HO_0 := n0_; have HO891 := n1_; have HB := n2_; clear n0_ n1_ n2_; (try clear hb); (try clear hb2); (try clear hk); (try clear hi)) | (go_at_call 31; (with_reducible refine (plait_Is.calls kj2 _ _ t888 t894 t895 _ ?side1 ?side2 A13.out).mono ?_); (case side1 => repeat (first | exact (Kd.R_reads' HO891.out).2.2 | (with_reducible refine Kd.C_alloc ?_ _) | (with_reducible refine Kd.C_drewN ?_ _) | (with_reducible refine Kd.C_drew ?_))); (case side2 => exact (Kd.R_reads' HO891.out).2.1); rintro e w29 ⟨rfl, hb⟩; have n0_ := Aside0.mk (Kd.V_below (by (with_reducible repeat (first | apply Kd.V_alloc | apply Kd.V_drewN | apply Kd.V_drew)); exact HO_0.out) hb); have n1_ := Aside0.mk (Kd.R_below (by (with_reducible repeat (first | apply Kd.R_alloc | apply Kd.R_drewN | apply Kd.R_drew)); exact HO891.out) hb); have n2_ := Aside0.mk (below_step (by repeat (first | (with_reducible first | exact HB.out | apply below_alloc | apply pw_below_drewN | apply below_drew1) | exact HB.out)) hb); clear HO_0; clear HO891; clear HB; have HO_0 := n0_; have HO891 := n1_; have HB := n2_; clear n0_ n1_ n2_; (try clear hb); (try clear hb2); (try clear hk); (try clear hi))); try go_wp2_with (first | (go_at_call 42; (with_reducible refine (plait_Arches.calls kj2 _ _ t888 t892 t893 _ ?side1 ?side2 A12.out).mono ?_); (case side1 => repeat (first | exact (Kd.R_reads' HO891.out).2.2 | (with_reducible refine Kd.C_alloc ?_ _) | (with_reducible refine Kd.C_drewN ?_ _) | (with_reducible refine Kd.C_drew ?_))); (case side2 => exact (Kd.R_reads' HO891.out).2.1); rintro e w28 ⟨rfl, hb⟩; have n0_ := Aside0.mk (Kd.V_below (by (with_reducible repeat (first | apply Kd.V_alloc | apply Kd.V_drewN | apply Kd.V_drew)); exact HO_0.out) hb); have n1_ := Aside0.mk (Kd.R_below (by (with_reducible repeat (first | apply Kd.R_alloc | apply Kd.R_drewN | apply Kd.R_drew)); exact HO891.out) hb); have n2_ := Aside0.mk (below_step (by repeat (first | (with_reducible first | exact HB.out | apply below_alloc | apply pw_below_drewN | apply below_drew1) | exact HB.out)) hb); clear HO_0; clear HO891; clear HB; have HO_0 := n0_; have HO891 := n1_; have HB := n2_; clear n0_ n1_ n2_; (try clear hb); (try clear hb2); (try clear hk); (try clear hi)) | (go_at_call 31; (with_reducible refine (plait_Is.calls kj2 _ _ t888 t894 t895 _ ?side1 ?side2 A13.out).mono ?_); (case side1 => repeat (first | exact (Kd.R_reads' HO891.out).2.2 | (with_reducible refine Kd.C_alloc ?_ _) | (with_reducible refine Kd.C_drewN ?_ _) | (with_reducible refine Kd.C_drew ?_))); (case side2 => exact (Kd.R_reads' HO891.out).2.1); rintro e w29 ⟨rfl, hb⟩; have n0_ := Aside0.mk (Kd.V_below (by (with_reducible repeat (first | apply Kd.V_alloc | apply Kd.V_drewN | apply Kd.V_drew)); exact HO_0.out) hb); have n1_ := Aside0.mk (Kd.R_below (by (with_reducible repeat (first | apply Kd.R_alloc | apply Kd.R_drewN | apply Kd.R_drew)); exact HO891.out) hb); have n2_ := Aside0.mk (below_step (by repeat (first | (with_reducible first | exact HB.out | apply below_alloc | apply pw_below_drewN | apply below_drew1) | exact HB.out)) hb); clear HO_0; clear HO891; clear HB; have HO_0 := n0_; have HO891 := n1_; have HB := n2_; clear n0_ n1_ n2_; (try clear hb); (try clear hb2); (try clear hk); (try clear hi))))
        go_ret
        exact ⟨by first | rfl | (simp [errW_none, errW_some] <;> rfl) | (simp [*, errW_none, errW_some] <;> rfl), by repeat (first | (with_reducible first | exact HB.out | apply below_alloc | apply pw_below_drewN | apply below_drew1) | exact HB.out)⟩
      ·rw [if_neg c14] at H
       have c14b0 : (t893 == 0) = false := beq_eq_false_iff_ne.mpr c14
       have c14b1 : (t893 != 0) = true := bne_iff_ne.mpr c14
       obtain rfl := Option.some.inj H
       obtain ⟨Ao30, co30, eo30⟩ := Kd.R_slice HO891.out
       subst eo30
       go_wp2_with (first | (go_at_call 42; (with_reducible refine (plait_Arches.calls kj2 _ _ t888 t892 t893 _ ?side1 ?side2 A12.out).mono ?_); (case side1 => repeat (first | exact (Kd.R_reads' HO891.out).2.2 | (with_reducible refine Kd.C_alloc ?_ _) | (with_reducible refine Kd.C_drewN ?_ _) | (with_reducible refine Kd.C_drew ?_))); (case side2 => exact (Kd.R_reads' HO891.out).2.1); rintro e w31 ⟨rfl, hb⟩; have n0_ := Aside0.mk (Kd.V_below (by (with_reducible repeat (first | apply Kd.V_alloc | apply Kd.V_drewN | apply Kd.V_drew)); exact HO_0.out) hb); have n1_ := Aside0.mk (Kd.R_below (by (with_reducible repeat (first | apply Kd.R_alloc | apply Kd.R_drewN | apply Kd.R_drew)); exact HO891.out) hb); have n2_ := Aside0.mk (below_step (by repeat (first | (with_reducible first | exact HB.out | apply below_alloc | apply pw_below_drewN | apply below_drew1) | exact HB.out)) hb); clear HO_0; clear HO891; clear HB; have HO_0 := n0_; have HO891 := n1_; have HB := n2_; clear n0_ n1_ n2_; (try clear hb); (try clear hb2); (try clear hk); (try clear hi)) | (go_at_call 31; (with_reducible refine (plait_Is.calls kj2 _ _ t888 t894 t895 _ ?side1 ?side2 A13.out).mono ?_); (case side1 => repeat (first | exact (Kd.R_reads' HO891.out).2.2 | (with_reducible refine Kd.C_alloc ?_ _) | (with_reducible refine Kd.C_drewN ?_ _) | (with_reducible refine Kd.C_drew ?_))); (case side2 => exact (Kd.R_reads' HO891.out).2.1); rintro e w32 ⟨rfl, hb⟩; have n0_ := Aside0.mk (Kd.V_below (by (with_reducible repeat (first | apply Kd.V_alloc | apply Kd.V_drewN | apply Kd.V_drew)); exact HO_0.out) hb); have n1_ := Aside0.mk (Kd.R_below (by (with_reducible repeat (first | apply Kd.R_alloc | apply Kd.R_drewN | apply Kd.R_drew)); exact HO891.out) hb); have n2_ := Aside0.mk (below_step (by repeat (first | (with_reducible first | exact HB.out | apply below_alloc | apply pw_below_drewN | apply below_drew1) | exact HB.out)) hb); clear HO_0; clear HO891; clear HB; have HO_0 := n0_; have HO891 := n1_; have HB := n2_; clear n0_ n1_ n2_; (try clear hb); (try clear hb2); (try clear hk); (try clear hi)))
       repeat (go_quiet (first | (go_at_call 42; (with_reducible refine (plait_Arches.calls kj2 _ _ t888 t892 t893 _ ?side1 ?side2 A12.out).mono ?_); (case side1 => repeat (first | exact (Kd.R_reads' HO891.out).2.2 | (with_reducible refine Kd.C_alloc ?_ _) | (with_reducible refine Kd.C_drewN ?_ _) | (with_reducible refine Kd.C_drew ?_))); (case side2 => exact (Kd.R_reads' HO891.out).2.1); rintro e w31 ⟨rfl, hb⟩; have n0_ := Aside0.mk (Kd.V_below (by (with_reducible repeat (first | apply Kd.V_alloc | apply Kd.V_drewN | apply Kd.V_drew)); exact HO_0.out) hb); have n1_ := Aside0.mk (Kd.R_below (by (with_reducible repeat (first | apply Kd.R_alloc | apply Kd.R_drewN | apply Kd.R_drew)); exact HO891.out) hb); have n2_ := Aside0.mk (below_step (by repeat (first | (with_reducible first | exact HB.out | apply below_alloc | apply pw_below_drewN | apply below_drew1) | exact HB.out)) hb); clear HO_0; clear HO891; clear HB; have HO_0 := n0_; have HO891 := n1_; have HB := n2_; clear n0_ n1_ n2_; (try clear hb); (try clear hb2); (try clear hk); (try clear hi)) | (go_at_call 31; (with_reducible refine (plait_Is.calls kj2 _ _ t888 t894 t895 _ ?side1 ?side2 A13.out).mono ?_); (case side1 => repeat (first | exact (Kd.R_reads' HO891.out).2.2 | (with_reducible refine Kd.C_alloc ?_ _) | (with_reducible refine Kd.C_drewN ?_ _) | (with_reducible refine Kd.C_drew ?_))); (case side2 => exact (Kd.R_reads' HO891.out).2.1); rintro e w32 ⟨rfl, hb⟩; have n0_ := Aside0.mk (Kd.V_below (by (with_reducible repeat (first | apply Kd.V_alloc | apply Kd.V_drewN | apply Kd.V_drew)); exact HO_0.out) hb); have n1_ := Aside0.mk (Kd.R_below (by (with_reducible repeat (first | apply Kd.R_alloc | apply Kd.R_drewN | apply Kd.R_drew)); exact HO891.out) hb); have n2_ := Aside0.mk (below_step (by repeat (first | (with_reducible first | exact HB.out | apply below_alloc | apply pw_below_drewN | apply below_drew1) | exact HB.out)) hb); clear HO_0; clear HO891; clear HB; have HO_0 := n0_; have HO891 := n1_; have HB := n2_; clear n0_ n1_ n2_; (try clear hb); (try clear hb2); (try clear hk); (try clear hi))); try go_wp2_with (first | (go_at_call 42; (with_reducible refine (plait_Arches.calls kj2 _ _ t888 t892 t893 _ ?side1 ?side2 A12.out).mono ?_); (case side1 => repeat (first | exact (Kd.R_reads' HO891.out).2.2 | (with_reducible refine Kd.C_alloc ?_ _) | (with_reducible refine Kd.C_drewN ?_ _) | (with_reducible refine Kd.C_drew ?_))); (case side2 => exact (Kd.R_reads' HO891.out).2.1); rintro e w31 ⟨rfl, hb⟩; have n0_ := Aside0.mk (Kd.V_below (by (with_reducible repeat (first | apply Kd.V_alloc | apply Kd.V_drewN | apply Kd.V_drew)); exact HO_0.out) hb); have n1_ := Aside0.mk (Kd.R_below (by (with_reducible repeat (first | apply Kd.R_alloc | apply Kd.R_drewN | apply Kd.R_drew)); exact HO891.out) hb); have n2_ := Aside0.mk (below_step (by repeat (first | (with_reducible first | exact HB.out | apply below_alloc | apply pw_below_drewN | apply below_drew1) | exact HB.out)) hb); clear HO_0; clear HO891; clear HB; have HO_0 := n0_; have HO891 := n1_; have HB := n2_; clear n0_ n1_ n2_; (try clear hb); (try clear hb2); (try clear hk); (try clear hi)) | (go_at_call 31; (with_reducible refine (plait_Is.calls kj2 _ _ t888 t894 t895 _ ?side1 ?side2 A13.out).mono ?_); (case side1 => repeat (first | exact (Kd.R_reads' HO891.out).2.2 | (with_reducible refine Kd.C_alloc ?_ _) | (with_reducible refine Kd.C_drewN ?_ _) | (with_reducible refine Kd.C_drew ?_))); (case side2 => exact (Kd.R_reads' HO891.out).2.1); rintro e w32 ⟨rfl, hb⟩; have n0_ := Aside0.mk (Kd.V_below (by (with_reducible repeat (first | apply Kd.V_alloc | apply Kd.V_drewN | apply Kd.V_drew)); exact HO_0.out) hb); have n1_ := Aside0.mk (Kd.R_below (by (with_reducible repeat (first | apply Kd.R_alloc | apply Kd.R_drewN | apply Kd.R_drew)); exact HO891.out) hb); have n2_ := Aside0.mk (below_step (by repeat (first | (with_reducible first | exact HB.out | apply below_alloc | apply pw_below_drewN | apply below_drew1) | exact HB.out)) hb); clear HO_0; clear HO891; clear HB; have HO_0 := n0_; have HO891 := n1_; have HB := n2_; clear n0_ n1_ n2_; (try clear hb); (try clear hb2); (try clear hk); (try clear hi))))
       go_ret
       exact ⟨by first | rfl | (simp [errW_none, errW_some] <;> rfl) | (simp [*, errW_none, errW_some] <;> rfl), by repeat (first | (with_reducible first | exact HB.out | apply below_alloc | apply pw_below_drewN | apply below_drew1) | exact HB.out)⟩
     ·rw [if_neg c11] at H
      have c11b0 : (t889 == 0) = false := beq_eq_false_iff_ne.mpr c11
      have c11b1 : (t889 != 0) = true := bne_iff_ne.mpr c11
      (first | rw [c11b0] | (simp only [i64_w, i32_w]; rw [c11b0]) | skip)
      have H' := Aside0.mk H
      clear H
      go_wp2
      repeat (go_quiet (fail); try go_wp2)
      go_meet
      case rel => exact ⟨_, H', ⟨by have := HJ2.out; first | omega | exact Nat.le_refl _⟩, ⟨by (with_reducible repeat (first | apply Kd.V_alloc | apply Kd.V_drewN | apply Kd.V_drew)); exact Kd.V_mono HO_0.out (fun _ hk => hk.1)⟩, ⟨by repeat (first | (with_reducible first | exact HB.out | apply below_alloc | apply pw_below_drewN | apply below_drew1) | exact HB.out)⟩⟩
    case rest =>
     clear HC9
     try clear c1
     try clear p2
     try clear c4
     try clear c4b0
     try clear c4b1
     try clear c5
     try clear p6
     try clear c11
     try clear c11b0
     try clear c11b1
     try clear c14
     try clear c14b0
     try clear c14b1
     try clear c15
     try clear c15b0
     try clear c15b1
     try clear c16
     try clear c16b0
     try clear c16b1
     try clear c17
     try clear c18
     try clear p2
     obtain ⟨kq, HA, HJ8, HO_0, HB⟩ := hcut
     cases kq with
     | zero => exact absurd HA.out (by simp [pomadelaw07_PlaitBent.j1])
     | succ kj8 =>
      have H := HA.out
      clear HA
      simp only [pomadelaw07_PlaitBent.j1] at H
      replace H := Option.bind_eq_some_iff.mp H
      obtain ⟨⟨t896, t897⟩, A330, H⟩ := H
      replace H : (if t897 = 0 then ((plait_Bend.f kj8 (wrap64 ((l0.length : Int) / 2)) t896).bind fun bt899 => ((plait_Power.f kj8 l0).bind fun bt903 => ((pomaderef07_Diagram.f kj8 l0).bind fun t906 => (if t906 = 0 then (if bt899.2 = 0 then (if bt903.2.2 = 0 then ((pomadelaw07_same.f kj8 bt899.1 l0).bind fun t907 => (if t907 = true then (if bt903.1 < 1 then (pomadelaw07_PlaitBent.j2 kj8 l0 bt903.1 bt903.2.1 true) else (if bt903.2.1 ≤ bt903.1 then (pomadelaw07_PlaitBent.j2 kj8 l0 bt903.1 bt903.2.1 true) else (pomadelaw07_PlaitBent.j2 kj8 l0 bt903.1 bt903.2.1 (decide (bt903.2.1 > 100))))) else (pomadelaw07_PlaitBent.j2 kj8 l0 bt903.1 bt903.2.1 true))) else (pomadelaw07_PlaitBent.j2 kj8 l0 bt903.1 bt903.2.1 true)) else (pomadelaw07_PlaitBent.j2 kj8 l0 bt903.1 bt903.2.1 true)) else (pomadelaw07_PlaitBent.j2 kj8 l0 bt903.1 bt903.2.1 true))))) else (if t896.toList = ([] : List UInt8) then ((pomadelaw07_alive.f).bind fun t898 => (some t898)) else (some false))) = some r := H
      have A33 := Aside0.mk A330
      clear A330
      by_cases c34 : t897 = 0
      ·rw [if_pos c34] at H
       have c34b0 : (t897 == 0) = true := beq_iff_eq.mpr c34
       have c34b1 : (t897 != 0) = false := bne_eq_false_iff_eq.mpr c34
       clear c34
       replace H := Option.bind_eq_some_iff.mp H
       obtain ⟨⟨t899, t900⟩, A350, H⟩ := H
       replace H : ((plait_Power.f kj8 l0).bind fun bt903 => ((pomaderef07_Diagram.f kj8 l0).bind fun t906 => (if t906 = 0 then (if t900 = 0 then (if bt903.2.2 = 0 then ((pomadelaw07_same.f kj8 t899 l0).bind fun t907 => (if t907 = true then (if bt903.1 < 1 then (pomadelaw07_PlaitBent.j2 kj8 l0 bt903.1 bt903.2.1 true) else (if bt903.2.1 ≤ bt903.1 then (pomadelaw07_PlaitBent.j2 kj8 l0 bt903.1 bt903.2.1 true) else (pomadelaw07_PlaitBent.j2 kj8 l0 bt903.1 bt903.2.1 (decide (bt903.2.1 > 100))))) else (pomadelaw07_PlaitBent.j2 kj8 l0 bt903.1 bt903.2.1 true))) else (pomadelaw07_PlaitBent.j2 kj8 l0 bt903.1 bt903.2.1 true)) else (pomadelaw07_PlaitBent.j2 kj8 l0 bt903.1 bt903.2.1 true)) else (pomadelaw07_PlaitBent.j2 kj8 l0 bt903.1 bt903.2.1 true)))) = some r := H
       have A35 := Aside0.mk A350
       clear A350
       replace H := Option.bind_eq_some_iff.mp H
       obtain ⟨⟨t903, t904, t905⟩, A360, H⟩ := H
       replace H : ((pomaderef07_Diagram.f kj8 l0).bind fun t906 => (if t906 = 0 then (if t900 = 0 then (if t905 = 0 then ((pomadelaw07_same.f kj8 t899 l0).bind fun t907 => (if t907 = true then (if t903 < 1 then (pomadelaw07_PlaitBent.j2 kj8 l0 t903 t904 true) else (if t904 ≤ t903 then (pomadelaw07_PlaitBent.j2 kj8 l0 t903 t904 true) else (pomadelaw07_PlaitBent.j2 kj8 l0 t903 t904 (decide (t904 > 100))))) else (pomadelaw07_PlaitBent.j2 kj8 l0 t903 t904 true))) else (pomadelaw07_PlaitBent.j2 kj8 l0 t903 t904 true)) else (pomadelaw07_PlaitBent.j2 kj8 l0 t903 t904 true)) else (pomadelaw07_PlaitBent.j2 kj8 l0 t903 t904 true))) = some r := H
       have A36 := Aside0.mk A360
       clear A360
       have HC37 := Aside0.mk H
       clear H
       go_upto_region 14 with (first | (go_at_call 42; (with_reducible refine (plait_Arches.calls kj8 _ _ l0 t896 t897 _ ?side1 ?side2 A33.out).mono ?_); (case side1 => repeat (first | exact (Kd.V_reads' HO_0.out).2.2 | (with_reducible refine Kd.C_alloc ?_ _) | (with_reducible refine Kd.C_drewN ?_ _) | (with_reducible refine Kd.C_drew ?_))); (case side2 => exact (Kd.V_reads' HO_0.out).2.1); rintro e w38 ⟨rfl, hb⟩; have n0_ := Aside0.mk (Kd.V_below (by (with_reducible repeat (first | apply Kd.V_alloc | apply Kd.V_drewN | apply Kd.V_drew)); exact HO_0.out) hb); have n1_ := Aside0.mk (below_step (by repeat (first | (with_reducible first | exact HB.out | apply below_alloc | apply pw_below_drewN | apply below_drew1) | exact HB.out)) hb); clear HO_0; clear HB; have HO_0 := n0_; have HB := n1_; clear n0_ n1_; (try clear hb); (try clear hb2); (try clear hk); (try clear hi)) | (go_at_call 40; (with_reducible refine (plait_Bend.calls kj8 (wrap64 ((l0.length : Int) / 2)) t896 t899 t900 _ A35.out).mono ?_); rintro e w39 ⟨v901, rfl, ho0, hb⟩; have n0_ := Aside0.mk (Kd.V_elder' (by (with_reducible repeat (first | apply Kd.V_alloc | apply Kd.V_drewN | apply Kd.V_drew)); exact HO_0.out) (Kd.R_base ho0) hb); have n1_ := Aside0.mk (Kd.R_lower (Kd.R_newM (M := fun k_ => (w.heap.size ≤ k_)) ho0 (below_size (by repeat (first | (with_reducible first | exact HB.out | apply below_alloc | apply pw_below_drewN | apply below_drew1) | exact HB.out))) (fun k_ h_ => h_)) (below_size (by repeat (first | (with_reducible first | exact HB.out | apply below_alloc | apply pw_below_drewN | apply below_drew1) | exact HB.out)))); have n2_ := Aside0.mk (below_step (by repeat (first | (with_reducible first | exact HB.out | apply below_alloc | apply pw_below_drewN | apply below_drew1) | exact HB.out)) hb); clear HO_0; clear HB; have HO_0 := n0_; have HO902 := n1_; have HB := n2_; clear n0_ n1_ n2_; (try clear hb); (try clear hb2); (try clear hk); (try clear hi); (try clear ho0)) | (go_at_call 38; (with_reducible refine (plait_Power.calls kj8 (fun k_ => ((P0_ k_ ∨ w.heap.size ≤ k_) ∧ some k_ ≠ (v901 : Value).ownBlock)) _ _ l0 t903 t904 t905 _ ?side1 A36.out).mono ?_); (case side1 => exact HO_0.out); rintro e w40 ⟨rfl, hb⟩; have n0_ := Aside0.mk (Kd.V_below (by (with_reducible repeat (first | apply Kd.V_alloc | apply Kd.V_drewN | apply Kd.V_drew)); exact HO_0.out) hb); have n1_ := Aside0.mk (Kd.R_below (by (with_reducible repeat (first | apply Kd.R_alloc | apply Kd.R_drewN | apply Kd.R_drew)); exact HO902.out) hb); have n2_ := Aside0.mk (below_step (by repeat (first | (with_reducible first | exact HB.out | apply below_alloc | apply pw_below_drewN | apply below_drew1) | exact HB.out)) hb); clear HO_0; clear HO902; clear HB; have HO_0 := n0_; have HO902 := n1_; have HB := n2_; clear n0_ n1_ n2_; (try clear hb); (try clear hb2); (try clear hk); (try clear hi)))
       repeat (go_quiet (first | (go_at_call 42; (with_reducible refine (plait_Arches.calls kj8 _ _ l0 t896 t897 _ ?side1 ?side2 A33.out).mono ?_); (case side1 => repeat (first | exact (Kd.V_reads' HO_0.out).2.2 | (with_reducible refine Kd.C_alloc ?_ _) | (with_reducible refine Kd.C_drewN ?_ _) | (with_reducible refine Kd.C_drew ?_))); (case side2 => exact (Kd.V_reads' HO_0.out).2.1); rintro e w38 ⟨rfl, hb⟩; have n0_ := Aside0.mk (Kd.V_below (by (with_reducible repeat (first | apply Kd.V_alloc | apply Kd.V_drewN | apply Kd.V_drew)); exact HO_0.out) hb); have n1_ := Aside0.mk (below_step (by repeat (first | (with_reducible first | exact HB.out | apply below_alloc | apply pw_below_drewN | apply below_drew1) | exact HB.out)) hb); clear HO_0; clear HB; have HO_0 := n0_; have HB := n1_; clear n0_ n1_; (try clear hb); (try clear hb2); (try clear hk); (try clear hi)) | (go_at_call 40; (with_reducible refine (plait_Bend.calls kj8 (wrap64 ((l0.length : Int) / 2)) t896 t899 t900 _ A35.out).mono ?_); rintro e w39 ⟨v901, rfl, ho0, hb⟩; have n0_ := Aside0.mk (Kd.V_elder' (by (with_reducible repeat (first | apply Kd.V_alloc | apply Kd.V_drewN | apply Kd.V_drew)); exact HO_0.out) (Kd.R_base ho0) hb); have n1_ := Aside0.mk (Kd.R_lower (Kd.R_newM (M := fun k_ => (w.heap.size ≤ k_)) ho0 (below_size (by repeat (first | (with_reducible first | exact HB.out | apply below_alloc | apply pw_below_drewN | apply below_drew1) | exact HB.out))) (fun k_ h_ => h_)) (below_size (by repeat (first | (with_reducible first | exact HB.out | apply below_alloc | apply pw_below_drewN | apply below_drew1) | exact HB.out)))); have n2_ := Aside0.mk (below_step (by repeat (first | (with_reducible first | exact HB.out | apply below_alloc | apply pw_below_drewN | apply below_drew1) | exact HB.out)) hb); clear HO_0; clear HB; have HO_0 := n0_; have HO902 := n1_; have HB := n2_; clear n0_ n1_ n2_; (try clear hb); (try clear hb2); (try clear hk); (try clear hi); (try clear ho0)) | (go_at_call 38; (with_reducible refine (plait_Power.calls kj8 (fun k_ => ((P0_ k_ ∨ w.heap.size ≤ k_) ∧ some k_ ≠ (v901 : Value).ownBlock)) _ _ l0 t903 t904 t905 _ ?side1 A36.out).mono ?_); (case side1 => exact HO_0.out); rintro e w40 ⟨rfl, hb⟩; have n0_ := Aside0.mk (Kd.V_below (by (with_reducible repeat (first | apply Kd.V_alloc | apply Kd.V_drewN | apply Kd.V_drew)); exact HO_0.out) hb); have n1_ := Aside0.mk (Kd.R_below (by (with_reducible repeat (first | apply Kd.R_alloc | apply Kd.R_drewN | apply Kd.R_drew)); exact HO902.out) hb); have n2_ := Aside0.mk (below_step (by repeat (first | (with_reducible first | exact HB.out | apply below_alloc | apply pw_below_drewN | apply below_drew1) | exact HB.out)) hb); clear HO_0; clear HO902; clear HB; have HO_0 := n0_; have HO902 := n1_; have HB := n2_; clear n0_ n1_ n2_; (try clear hb); (try clear hb2); (try clear hk); (try clear hi))); go_upto_region 14 with (first | (go_at_call 42; (with_reducible refine (plait_Arches.calls kj8 _ _ l0 t896 t897 _ ?side1 ?side2 A33.out).mono ?_); (case side1 => repeat (first | exact (Kd.V_reads' HO_0.out).2.2 | (with_reducible refine Kd.C_alloc ?_ _) | (with_reducible refine Kd.C_drewN ?_ _) | (with_reducible refine Kd.C_drew ?_))); (case side2 => exact (Kd.V_reads' HO_0.out).2.1); rintro e w38 ⟨rfl, hb⟩; have n0_ := Aside0.mk (Kd.V_below (by (with_reducible repeat (first | apply Kd.V_alloc | apply Kd.V_drewN | apply Kd.V_drew)); exact HO_0.out) hb); have n1_ := Aside0.mk (below_step (by repeat (first | (with_reducible first | exact HB.out | apply below_alloc | apply pw_below_drewN | apply below_drew1) | exact HB.out)) hb); clear HO_0; clear HB; have HO_0 := n0_; have HB := n1_; clear n0_ n1_; (try clear hb); (try clear hb2); (try clear hk); (try clear hi)) | (go_at_call 40; (with_reducible refine (plait_Bend.calls kj8 (wrap64 ((l0.length : Int) / 2)) t896 t899 t900 _ A35.out).mono ?_); rintro e w39 ⟨v901, rfl, ho0, hb⟩; have n0_ := Aside0.mk (Kd.V_elder' (by (with_reducible repeat (first | apply Kd.V_alloc | apply Kd.V_drewN | apply Kd.V_drew)); exact HO_0.out) (Kd.R_base ho0) hb); have n1_ := Aside0.mk (Kd.R_lower (Kd.R_newM (M := fun k_ => (w.heap.size ≤ k_)) ho0 (below_size (by repeat (first | (with_reducible first | exact HB.out | apply below_alloc | apply pw_below_drewN | apply below_drew1) | exact HB.out))) (fun k_ h_ => h_)) (below_size (by repeat (first | (with_reducible first | exact HB.out | apply below_alloc | apply pw_below_drewN | apply below_drew1) | exact HB.out)))); have n2_ := Aside0.mk (below_step (by repeat (first | (with_reducible first | exact HB.out | apply below_alloc | apply pw_below_drewN | apply below_drew1) | exact HB.out)) hb); clear HO_0; clear HB; have HO_0 := n0_; have HO902 := n1_; have HB := n2_; clear n0_ n1_ n2_; (try clear hb); (try clear hb2); (try clear hk); (try clear hi); (try clear ho0)) | (go_at_call 38; (with_reducible refine (plait_Power.calls kj8 (fun k_ => ((P0_ k_ ∨ w.heap.size ≤ k_) ∧ some k_ ≠ (v901 : Value).ownBlock)) _ _ l0 t903 t904 t905 _ ?side1 A36.out).mono ?_); (case side1 => exact HO_0.out); rintro e w40 ⟨rfl, hb⟩; have n0_ := Aside0.mk (Kd.V_below (by (with_reducible repeat (first | apply Kd.V_alloc | apply Kd.V_drewN | apply Kd.V_drew)); exact HO_0.out) hb); have n1_ := Aside0.mk (Kd.R_below (by (with_reducible repeat (first | apply Kd.R_alloc | apply Kd.R_drewN | apply Kd.R_drew)); exact HO902.out) hb); have n2_ := Aside0.mk (below_step (by repeat (first | (with_reducible first | exact HB.out | apply below_alloc | apply pw_below_drewN | apply below_drew1) | exact HB.out)) hb); clear HO_0; clear HO902; clear HB; have HO_0 := n0_; have HO902 := n1_; have HB := n2_; clear n0_ n1_ n2_; (try clear hb); (try clear hb2); (try clear hk); (try clear hi))))
       (try simp only [Act.put, List.setIfInBounds_toArray, List.set_cons_zero, List.set_cons_succ])
       go_cut [122] (fun v122 wc => ∃ (kq : Nat) (x122_36 : Bool), v122 = .bool x122_36 ∧ Aside0 (pomadelaw07_PlaitBent.j2 kq l0 t903 t904 x122_36 = some r) ∧ Aside0 (kq ≤ kj8) ∧ Aside0 (Kd.V (Kd.int .i64) 3 wc w.heap.size (fun k_ => (P0_ k_ ∨ w.heap.size ≤ k_)) (.slice A0 l0.length c0) l0) ∧ Aside0 (Below w.heap.size w wc))
       case first =>
        have H := HC37.out
        clear HC37
        replace H := Option.bind_eq_some_iff.mp H
        obtain ⟨t906, A410, H⟩ := H
        replace H : (if t906 = 0 then (if t900 = 0 then (if t905 = 0 then ((pomadelaw07_same.f kj8 t899 l0).bind fun t907 => (if t907 = true then (if t903 < 1 then (pomadelaw07_PlaitBent.j2 kj8 l0 t903 t904 true) else (if t904 ≤ t903 then (pomadelaw07_PlaitBent.j2 kj8 l0 t903 t904 true) else (pomadelaw07_PlaitBent.j2 kj8 l0 t903 t904 (decide (t904 > 100))))) else (pomadelaw07_PlaitBent.j2 kj8 l0 t903 t904 true))) else (pomadelaw07_PlaitBent.j2 kj8 l0 t903 t904 true)) else (pomadelaw07_PlaitBent.j2 kj8 l0 t903 t904 true)) else (pomadelaw07_PlaitBent.j2 kj8 l0 t903 t904 true)) = some r := H
        have A41 := Aside0.mk A410
        clear A410
        by_cases c42 : t906 = 0
        ·rw [if_pos c42] at H
         have c42b0 : (t906 == 0) = true := beq_iff_eq.mpr c42
         have c42b1 : (t906 != 0) = false := bne_eq_false_iff_eq.mpr c42
         clear c42
         (first | rw [c42b0] | (simp only [i64_w, i32_w]; rw [c42b0]) | skip)
         by_cases c43 : t900 = 0
         ·rw [if_pos c43] at H
          have c43b0 : (t900 == 0) = true := beq_iff_eq.mpr c43
          have c43b1 : (t900 != 0) = false := bne_eq_false_iff_eq.mpr c43
          clear c43
          by_cases c44 : t905 = 0
          ·rw [if_pos c44] at H
           have c44b0 : (t905 == 0) = true := beq_iff_eq.mpr c44
           have c44b1 : (t905 != 0) = false := bne_eq_false_iff_eq.mpr c44
           clear c44
           replace H := Option.bind_eq_some_iff.mp H
           obtain ⟨t907, A450, H⟩ := H
           replace H : (if t907 = true then (if t903 < 1 then (pomadelaw07_PlaitBent.j2 kj8 l0 t903 t904 true) else (if t904 ≤ t903 then (pomadelaw07_PlaitBent.j2 kj8 l0 t903 t904 true) else (pomadelaw07_PlaitBent.j2 kj8 l0 t903 t904 (decide (t904 > 100))))) else (pomadelaw07_PlaitBent.j2 kj8 l0 t903 t904 true)) = some r := H
           have A45 := Aside0.mk A450
           clear A450
           by_cases c46 : t907 = true
           ·subst c46
            have H1 : (if t903 < 1 then (pomadelaw07_PlaitBent.j2 kj8 l0 t903 t904 true) else (if t904 ≤ t903 then (pomadelaw07_PlaitBent.j2 kj8 l0 t903 t904 true) else (pomadelaw07_PlaitBent.j2 kj8 l0 t903 t904 (decide (t904 > 100))))) = some r := by rw [if_pos rfl] at H; exact H
            clear H
            have H := H1
            clear H1
            by_cases c47 : t903 < 1
            ·rw [if_pos c47] at H
             have c47b0 : decide (t903 < 1) = true := decide_eq_true c47
             clear c47
             have H' := Aside0.mk H
             clear H
             go_wp2_with (first | (go_at_call 19; (with_reducible refine (pomaderef07_Diagram.calls kj8 _ _ l0 t906 _ ?side1 ?side2 A41.out).mono ?_); (case side1 => repeat (first | exact (Kd.V_reads' HO_0.out).2.2 | (with_reducible refine Kd.C_alloc ?_ _) | (with_reducible refine Kd.C_drewN ?_ _) | (with_reducible refine Kd.C_drew ?_))); (case side2 => exact (Kd.V_reads' HO_0.out).2.1); rintro e w' ⟨rfl, ⟨nd, rfl⟩⟩; (try first | exact ⟨rfl, _, World.drewN_drewN _ _ _⟩ | exact ⟨rfl, _, Eq.trans (World.drewN_drewN _ _ _) (congrArg (World.drewN _) (Nat.add_assoc _ _ _))⟩); obtain ⟨Ao48, co48, eo48⟩ := Kd.R_slice HO902.out; subst eo48) | (go_at_call 23; (with_reducible refine (pomadelaw07_same.calls kj8 _ _ t899 _ _ l0 true _ ?side1 ?side2 ?side3 ?side4 A45.out).mono ?_); (case side1 => repeat (first | exact (Kd.R_reads' HO902.out).2.2 | (with_reducible refine Kd.C_alloc ?_ _) | (with_reducible refine Kd.C_drewN ?_ _) | (with_reducible refine Kd.C_drew ?_))); (case side2 => exact (Kd.R_reads' HO902.out).2.1); (case side3 => repeat (first | exact (Kd.V_reads' HO_0.out).2.2 | (with_reducible refine Kd.C_alloc ?_ _) | (with_reducible refine Kd.C_drewN ?_ _) | (with_reducible refine Kd.C_drew ?_))); (case side4 => exact (Kd.V_reads' HO_0.out).2.1); rintro e w' ⟨rfl, ⟨nd, rfl⟩⟩; (try first | exact ⟨rfl, _, World.drewN_drewN _ _ _⟩ | exact ⟨rfl, _, Eq.trans (World.drewN_drewN _ _ _) (congrArg (World.drewN _) (Nat.add_assoc _ _ _))⟩)))
             repeat (go_quiet (first | (go_at_call 19; (with_reducible refine (pomaderef07_Diagram.calls kj8 _ _ l0 t906 _ ?side1 ?side2 A41.out).mono ?_); (case side1 => repeat (first | exact (Kd.V_reads' HO_0.out).2.2 | (with_reducible refine Kd.C_alloc ?_ _) | (with_reducible refine Kd.C_drewN ?_ _) | (with_reducible refine Kd.C_drew ?_))); (case side2 => exact (Kd.V_reads' HO_0.out).2.1); rintro e w' ⟨rfl, ⟨nd, rfl⟩⟩; (try first | exact ⟨rfl, _, World.drewN_drewN _ _ _⟩ | exact ⟨rfl, _, Eq.trans (World.drewN_drewN _ _ _) (congrArg (World.drewN _) (Nat.add_assoc _ _ _))⟩); obtain ⟨Ao48, co48, eo48⟩ := Kd.R_slice HO902.out; subst eo48) | (go_at_call 23; (with_reducible refine (pomadelaw07_same.calls kj8 _ _ t899 _ _ l0 true _ ?side1 ?side2 ?side3 ?side4 A45.out).mono ?_); (case side1 => repeat (first | exact (Kd.R_reads' HO902.out).2.2 | (with_reducible refine Kd.C_alloc ?_ _) | (with_reducible refine Kd.C_drewN ?_ _) | (with_reducible refine Kd.C_drew ?_))); (case side2 => exact (Kd.R_reads' HO902.out).2.1); (case side3 => repeat (first | exact (Kd.V_reads' HO_0.out).2.2 | (with_reducible refine Kd.C_alloc ?_ _) | (with_reducible refine Kd.C_drewN ?_ _) | (with_reducible refine Kd.C_drew ?_))); (case side4 => exact (Kd.V_reads' HO_0.out).2.1); rintro e w' ⟨rfl, ⟨nd, rfl⟩⟩; (try first | exact ⟨rfl, _, World.drewN_drewN _ _ _⟩ | exact ⟨rfl, _, Eq.trans (World.drewN_drewN _ _ _) (congrArg (World.drewN _) (Nat.add_assoc _ _ _))⟩))); try go_wp2_with (first | (go_at_call 19; (with_reducible refine (pomaderef07_Diagram.calls kj8 _ _ l0 t906 _ ?side1 ?side2 A41.out).mono ?_); (case side1 => repeat (first | exact (Kd.V_reads' HO_0.out).2.2 | (with_reducible refine Kd.C_alloc ?_ _) | (with_reducible refine Kd.C_drewN ?_ _) | (with_reducible refine Kd.C_drew ?_))); (case side2 => exact (Kd.V_reads' HO_0.out).2.1); rintro e w' ⟨rfl, ⟨nd, rfl⟩⟩; (try first | exact ⟨rfl, _, World.drewN_drewN _ _ _⟩ | exact ⟨rfl, _, Eq.trans (World.drewN_drewN _ _ _) (congrArg (World.drewN _) (Nat.add_assoc _ _ _))⟩); obtain ⟨Ao48, co48, eo48⟩ := Kd.R_slice HO902.out; subst eo48) | (go_at_call 23; (with_reducible refine (pomadelaw07_same.calls kj8 _ _ t899 _ _ l0 true _ ?side1 ?side2 ?side3 ?side4 A45.out).mono ?_); (case side1 => repeat (first | exact (Kd.R_reads' HO902.out).2.2 | (with_reducible refine Kd.C_alloc ?_ _) | (with_reducible refine Kd.C_drewN ?_ _) | (with_reducible refine Kd.C_drew ?_))); (case side2 => exact (Kd.R_reads' HO902.out).2.1); (case side3 => repeat (first | exact (Kd.V_reads' HO_0.out).2.2 | (with_reducible refine Kd.C_alloc ?_ _) | (with_reducible refine Kd.C_drewN ?_ _) | (with_reducible refine Kd.C_drew ?_))); (case side4 => exact (Kd.V_reads' HO_0.out).2.1); rintro e w' ⟨rfl, ⟨nd, rfl⟩⟩; (try first | exact ⟨rfl, _, World.drewN_drewN _ _ _⟩ | exact ⟨rfl, _, Eq.trans (World.drewN_drewN _ _ _) (congrArg (World.drewN _) (Nat.add_assoc _ _ _))⟩))))
             go_meet
             case rel => exact ⟨_, (true), (by first | rfl | (simp; done) | (simp [*]; done)), H', ⟨by have := HJ2.out; have := HJ8.out; first | omega | exact Nat.le_refl _⟩, ⟨by (with_reducible repeat (first | apply Kd.V_alloc | apply Kd.V_drewN | apply Kd.V_drew)); exact Kd.V_mono HO_0.out (fun _ hk => hk.1)⟩, ⟨by repeat (first | (with_reducible first | exact HB.out | apply below_alloc | apply pw_below_drewN | apply below_drew1) | exact HB.out)⟩⟩
            ·rw [if_neg c47] at H
             have c47b0 : decide (t903 < 1) = false := decide_eq_false c47
             clear c47
             by_cases c49 : t904 ≤ t903
             ·rw [if_pos c49] at H
              have c49b0 : decide (t904 ≤ t903) = true := decide_eq_true c49
              clear c49
              have H' := Aside0.mk H
              clear H
              go_wp2_with (first | (go_at_call 19; (with_reducible refine (pomaderef07_Diagram.calls kj8 _ _ l0 t906 _ ?side1 ?side2 A41.out).mono ?_); (case side1 => repeat (first | exact (Kd.V_reads' HO_0.out).2.2 | (with_reducible refine Kd.C_alloc ?_ _) | (with_reducible refine Kd.C_drewN ?_ _) | (with_reducible refine Kd.C_drew ?_))); (case side2 => exact (Kd.V_reads' HO_0.out).2.1); rintro e w' ⟨rfl, ⟨nd, rfl⟩⟩; (try first | exact ⟨rfl, _, World.drewN_drewN _ _ _⟩ | exact ⟨rfl, _, Eq.trans (World.drewN_drewN _ _ _) (congrArg (World.drewN _) (Nat.add_assoc _ _ _))⟩); obtain ⟨Ao50, co50, eo50⟩ := Kd.R_slice HO902.out; subst eo50) | (go_at_call 23; (with_reducible refine (pomadelaw07_same.calls kj8 _ _ t899 _ _ l0 true _ ?side1 ?side2 ?side3 ?side4 A45.out).mono ?_); (case side1 => repeat (first | exact (Kd.R_reads' HO902.out).2.2 | (with_reducible refine Kd.C_alloc ?_ _) | (with_reducible refine Kd.C_drewN ?_ _) | (with_reducible refine Kd.C_drew ?_))); (case side2 => exact (Kd.R_reads' HO902.out).2.1); (case side3 => repeat (first | exact (Kd.V_reads' HO_0.out).2.2 | (with_reducible refine Kd.C_alloc ?_ _) | (with_reducible refine Kd.C_drewN ?_ _) | (with_reducible refine Kd.C_drew ?_))); (case side4 => exact (Kd.V_reads' HO_0.out).2.1); rintro e w' ⟨rfl, ⟨nd, rfl⟩⟩; (try first | exact ⟨rfl, _, World.drewN_drewN _ _ _⟩ | exact ⟨rfl, _, Eq.trans (World.drewN_drewN _ _ _) (congrArg (World.drewN _) (Nat.add_assoc _ _ _))⟩)))
              repeat (go_quiet (first | (go_at_call 19; (with_reducible refine (pomaderef07_Diagram.calls kj8 _ _ l0 t906 _ ?side1 ?side2 A41.out).mono ?_); (case side1 => repeat (first | exact (Kd.V_reads' HO_0.out).2.2 | (with_reducible refine Kd.C_alloc ?_ _) | (with_reducible refine Kd.C_drewN ?_ _) | (with_reducible refine Kd.C_drew ?_))); (case side2 => exact (Kd.V_reads' HO_0.out).2.1); rintro e w' ⟨rfl, ⟨nd, rfl⟩⟩; (try first | exact ⟨rfl, _, World.drewN_drewN _ _ _⟩ | exact ⟨rfl, _, Eq.trans (World.drewN_drewN _ _ _) (congrArg (World.drewN _) (Nat.add_assoc _ _ _))⟩); obtain ⟨Ao50, co50, eo50⟩ := Kd.R_slice HO902.out; subst eo50) | (go_at_call 23; (with_reducible refine (pomadelaw07_same.calls kj8 _ _ t899 _ _ l0 true _ ?side1 ?side2 ?side3 ?side4 A45.out).mono ?_); (case side1 => repeat (first | exact (Kd.R_reads' HO902.out).2.2 | (with_reducible refine Kd.C_alloc ?_ _) | (with_reducible refine Kd.C_drewN ?_ _) | (with_reducible refine Kd.C_drew ?_))); (case side2 => exact (Kd.R_reads' HO902.out).2.1); (case side3 => repeat (first | exact (Kd.V_reads' HO_0.out).2.2 | (with_reducible refine Kd.C_alloc ?_ _) | (with_reducible refine Kd.C_drewN ?_ _) | (with_reducible refine Kd.C_drew ?_))); (case side4 => exact (Kd.V_reads' HO_0.out).2.1); rintro e w' ⟨rfl, ⟨nd, rfl⟩⟩; (try first | exact ⟨rfl, _, World.drewN_drewN _ _ _⟩ | exact ⟨rfl, _, Eq.trans (World.drewN_drewN _ _ _) (congrArg (World.drewN _) (Nat.add_assoc _ _ _))⟩))); try go_wp2_with (first | (go_at_call 19; (with_reducible refine (pomaderef07_Diagram.calls kj8 _ _ l0 t906 _ ?side1 ?side2 A41.out).mono ?_); (case side1 => repeat (first | exact (Kd.V_reads' HO_0.out).2.2 | (with_reducible refine Kd.C_alloc ?_ _) | (with_reducible refine Kd.C_drewN ?_ _) | (with_reducible refine Kd.C_drew ?_))); (case side2 => exact (Kd.V_reads' HO_0.out).2.1); rintro e w' ⟨rfl, ⟨nd, rfl⟩⟩; (try first | exact ⟨rfl, _, World.drewN_drewN _ _ _⟩ | exact ⟨rfl, _, Eq.trans (World.drewN_drewN _ _ _) (congrArg (World.drewN _) (Nat.add_assoc _ _ _))⟩); obtain ⟨Ao50, co50, eo50⟩ := Kd.R_slice HO902.out; subst eo50) | (go_at_call 23; (with_reducible refine (pomadelaw07_same.calls kj8 _ _ t899 _ _ l0 true _ ?side1 ?side2 ?side3 ?side4 A45.out).mono ?_); (case side1 => repeat (first | exact (Kd.R_reads' HO902.out).2.2 | (with_reducible refine Kd.C_alloc ?_ _) | (with_reducible refine Kd.C_drewN ?_ _) | (with_reducible refine Kd.C_drew ?_))); (case side2 => exact (Kd.R_reads' HO902.out).2.1); (case side3 => repeat (first | exact (Kd.V_reads' HO_0.out).2.2 | (with_reducible refine Kd.C_alloc ?_ _) | (with_reducible refine Kd.C_drewN ?_ _) | (with_reducible refine Kd.C_drew ?_))); (case side4 => exact (Kd.V_reads' HO_0.out).2.1); rintro e w' ⟨rfl, ⟨nd, rfl⟩⟩; (try first | exact ⟨rfl, _, World.drewN_drewN _ _ _⟩ | exact ⟨rfl, _, Eq.trans (World.drewN_drewN _ _ _) (congrArg (World.drewN _) (Nat.add_assoc _ _ _))⟩))))
              go_meet
              case rel => exact ⟨_, (true), (by first | rfl | (simp; done) | (simp [*]; done)), H', ⟨by have := HJ2.out; have := HJ8.out; first | omega | exact Nat.le_refl _⟩, ⟨by (with_reducible repeat (first | apply Kd.V_alloc | apply Kd.V_drewN | apply Kd.V_drew)); exact Kd.V_mono HO_0.out (fun _ hk => hk.1)⟩, ⟨by repeat (first | (with_reducible first | exact HB.out | apply below_alloc | apply pw_below_drewN | apply below_drew1) | exact HB.out)⟩⟩
             ·rw [if_neg c49] at H
              have c49b0 : decide (t904 ≤ t903) = false := decide_eq_false c49
              clear c49
              have H' := Aside0.mk H
              clear H
              go_wp2_with (first | (go_at_call 19; (with_reducible refine (pomaderef07_Diagram.calls kj8 _ _ l0 t906 _ ?side1 ?side2 A41.out).mono ?_); (case side1 => repeat (first | exact (Kd.V_reads' HO_0.out).2.2 | (with_reducible refine Kd.C_alloc ?_ _) | (with_reducible refine Kd.C_drewN ?_ _) | (with_reducible refine Kd.C_drew ?_))); (case side2 => exact (Kd.V_reads' HO_0.out).2.1); rintro e w' ⟨rfl, ⟨nd, rfl⟩⟩; (try first | exact ⟨rfl, _, World.drewN_drewN _ _ _⟩ | exact ⟨rfl, _, Eq.trans (World.drewN_drewN _ _ _) (congrArg (World.drewN _) (Nat.add_assoc _ _ _))⟩); obtain ⟨Ao51, co51, eo51⟩ := Kd.R_slice HO902.out; subst eo51) | (go_at_call 23; (with_reducible refine (pomadelaw07_same.calls kj8 _ _ t899 _ _ l0 true _ ?side1 ?side2 ?side3 ?side4 A45.out).mono ?_); (case side1 => repeat (first | exact (Kd.R_reads' HO902.out).2.2 | (with_reducible refine Kd.C_alloc ?_ _) | (with_reducible refine Kd.C_drewN ?_ _) | (with_reducible refine Kd.C_drew ?_))); (case side2 => exact (Kd.R_reads' HO902.out).2.1); (case side3 => repeat (first | exact (Kd.V_reads' HO_0.out).2.2 | (with_reducible refine Kd.C_alloc ?_ _) | (with_reducible refine Kd.C_drewN ?_ _) | (with_reducible refine Kd.C_drew ?_))); (case side4 => exact (Kd.V_reads' HO_0.out).2.1); rintro e w' ⟨rfl, ⟨nd, rfl⟩⟩; (try first | exact ⟨rfl, _, World.drewN_drewN _ _ _⟩ | exact ⟨rfl, _, Eq.trans (World.drewN_drewN _ _ _) (congrArg (World.drewN _) (Nat.add_assoc _ _ _))⟩)))
              repeat (go_quiet (first | (go_at_call 19; (with_reducible refine (pomaderef07_Diagram.calls kj8 _ _ l0 t906 _ ?side1 ?side2 A41.out).mono ?_); (case side1 => repeat (first | exact (Kd.V_reads' HO_0.out).2.2 | (with_reducible refine Kd.C_alloc ?_ _) | (with_reducible refine Kd.C_drewN ?_ _) | (with_reducible refine Kd.C_drew ?_))); (case side2 => exact (Kd.V_reads' HO_0.out).2.1); rintro e w' ⟨rfl, ⟨nd, rfl⟩⟩; (try first | exact ⟨rfl, _, World.drewN_drewN _ _ _⟩ | exact ⟨rfl, _, Eq.trans (World.drewN_drewN _ _ _) (congrArg (World.drewN _) (Nat.add_assoc _ _ _))⟩); obtain ⟨Ao51, co51, eo51⟩ := Kd.R_slice HO902.out; subst eo51) | (go_at_call 23; (with_reducible refine (pomadelaw07_same.calls kj8 _ _ t899 _ _ l0 true _ ?side1 ?side2 ?side3 ?side4 A45.out).mono ?_); (case side1 => repeat (first | exact (Kd.R_reads' HO902.out).2.2 | (with_reducible refine Kd.C_alloc ?_ _) | (with_reducible refine Kd.C_drewN ?_ _) | (with_reducible refine Kd.C_drew ?_))); (case side2 => exact (Kd.R_reads' HO902.out).2.1); (case side3 => repeat (first | exact (Kd.V_reads' HO_0.out).2.2 | (with_reducible refine Kd.C_alloc ?_ _) | (with_reducible refine Kd.C_drewN ?_ _) | (with_reducible refine Kd.C_drew ?_))); (case side4 => exact (Kd.V_reads' HO_0.out).2.1); rintro e w' ⟨rfl, ⟨nd, rfl⟩⟩; (try first | exact ⟨rfl, _, World.drewN_drewN _ _ _⟩ | exact ⟨rfl, _, Eq.trans (World.drewN_drewN _ _ _) (congrArg (World.drewN _) (Nat.add_assoc _ _ _))⟩))); try go_wp2_with (first | (go_at_call 19; (with_reducible refine (pomaderef07_Diagram.calls kj8 _ _ l0 t906 _ ?side1 ?side2 A41.out).mono ?_); (case side1 => repeat (first | exact (Kd.V_reads' HO_0.out).2.2 | (with_reducible refine Kd.C_alloc ?_ _) | (with_reducible refine Kd.C_drewN ?_ _) | (with_reducible refine Kd.C_drew ?_))); (case side2 => exact (Kd.V_reads' HO_0.out).2.1); rintro e w' ⟨rfl, ⟨nd, rfl⟩⟩; (try first | exact ⟨rfl, _, World.drewN_drewN _ _ _⟩ | exact ⟨rfl, _, Eq.trans (World.drewN_drewN _ _ _) (congrArg (World.drewN _) (Nat.add_assoc _ _ _))⟩); obtain ⟨Ao51, co51, eo51⟩ := Kd.R_slice HO902.out; subst eo51) | (go_at_call 23; (with_reducible refine (pomadelaw07_same.calls kj8 _ _ t899 _ _ l0 true _ ?side1 ?side2 ?side3 ?side4 A45.out).mono ?_); (case side1 => repeat (first | exact (Kd.R_reads' HO902.out).2.2 | (with_reducible refine Kd.C_alloc ?_ _) | (with_reducible refine Kd.C_drewN ?_ _) | (with_reducible refine Kd.C_drew ?_))); (case side2 => exact (Kd.R_reads' HO902.out).2.1); (case side3 => repeat (first | exact (Kd.V_reads' HO_0.out).2.2 | (with_reducible refine Kd.C_alloc ?_ _) | (with_reducible refine Kd.C_drewN ?_ _) | (with_reducible refine Kd.C_drew ?_))); (case side4 => exact (Kd.V_reads' HO_0.out).2.1); rintro e w' ⟨rfl, ⟨nd, rfl⟩⟩; (try first | exact ⟨rfl, _, World.drewN_drewN _ _ _⟩ | exact ⟨rfl, _, Eq.trans (World.drewN_drewN _ _ _) (congrArg (World.drewN _) (Nat.add_assoc _ _ _))⟩))))
              go_meet
              case rel => exact ⟨_, (decide (t904 > 100)), (by first | rfl | (simp; done) | (simp [*]; done)), H', ⟨by have := HJ2.out; have := HJ8.out; first | omega | exact Nat.le_refl _⟩, ⟨by (with_reducible repeat (first | apply Kd.V_alloc | apply Kd.V_drewN | apply Kd.V_drew)); exact Kd.V_mono HO_0.out (fun _ hk => hk.1)⟩, ⟨by repeat (first | (with_reducible first | exact HB.out | apply below_alloc | apply pw_below_drewN | apply below_drew1) | exact HB.out)⟩⟩
           ·replace c46 := Bool.eq_false_iff.mpr c46
            subst c46
            have H1 : (pomadelaw07_PlaitBent.j2 kj8 l0 t903 t904 true) = some r := by rw [if_neg (show ¬ (false = true) by decide)] at H; exact H
            clear H
            have H := H1
            clear H1
            have H' := Aside0.mk H
            clear H
            go_wp2_with (first | (go_at_call 19; (with_reducible refine (pomaderef07_Diagram.calls kj8 _ _ l0 t906 _ ?side1 ?side2 A41.out).mono ?_); (case side1 => repeat (first | exact (Kd.V_reads' HO_0.out).2.2 | (with_reducible refine Kd.C_alloc ?_ _) | (with_reducible refine Kd.C_drewN ?_ _) | (with_reducible refine Kd.C_drew ?_))); (case side2 => exact (Kd.V_reads' HO_0.out).2.1); rintro e w' ⟨rfl, ⟨nd, rfl⟩⟩; (try first | exact ⟨rfl, _, World.drewN_drewN _ _ _⟩ | exact ⟨rfl, _, Eq.trans (World.drewN_drewN _ _ _) (congrArg (World.drewN _) (Nat.add_assoc _ _ _))⟩); obtain ⟨Ao52, co52, eo52⟩ := Kd.R_slice HO902.out; subst eo52) | (go_at_call 23; (with_reducible refine (pomadelaw07_same.calls kj8 _ _ t899 _ _ l0 false _ ?side1 ?side2 ?side3 ?side4 A45.out).mono ?_); (case side1 => repeat (first | exact (Kd.R_reads' HO902.out).2.2 | (with_reducible refine Kd.C_alloc ?_ _) | (with_reducible refine Kd.C_drewN ?_ _) | (with_reducible refine Kd.C_drew ?_))); (case side2 => exact (Kd.R_reads' HO902.out).2.1); (case side3 => repeat (first | exact (Kd.V_reads' HO_0.out).2.2 | (with_reducible refine Kd.C_alloc ?_ _) | (with_reducible refine Kd.C_drewN ?_ _) | (with_reducible refine Kd.C_drew ?_))); (case side4 => exact (Kd.V_reads' HO_0.out).2.1); rintro e w' ⟨rfl, ⟨nd, rfl⟩⟩; (try first | exact ⟨rfl, _, World.drewN_drewN _ _ _⟩ | exact ⟨rfl, _, Eq.trans (World.drewN_drewN _ _ _) (congrArg (World.drewN _) (Nat.add_assoc _ _ _))⟩)))
            repeat (go_quiet (first | (go_at_call 19; (with_reducible refine (pomaderef07_Diagram.calls kj8 _ _ l0 t906 _ ?side1 ?side2 A41.out).mono ?_); (case side1 => repeat (first | exact (Kd.V_reads' HO_0.out).2.2 | (with_reducible refine Kd.C_alloc ?_ _) | (with_reducible refine Kd.C_drewN ?_ _) | (with_reducible refine Kd.C_drew ?_))); (case side2 => exact (Kd.V_reads' HO_0.out).2.1); rintro e w' ⟨rfl, ⟨nd, rfl⟩⟩; (try first | exact ⟨rfl, _, World.drewN_drewN _ _ _⟩ | exact ⟨rfl, _, Eq.trans (World.drewN_drewN _ _ _) (congrArg (World.drewN _) (Nat.add_assoc _ _ _))⟩); obtain ⟨Ao52, co52, eo52⟩ := Kd.R_slice HO902.out; subst eo52) | (go_at_call 23; (with_reducible refine (pomadelaw07_same.calls kj8 _ _ t899 _ _ l0 false _ ?side1 ?side2 ?side3 ?side4 A45.out).mono ?_); (case side1 => repeat (first | exact (Kd.R_reads' HO902.out).2.2 | (with_reducible refine Kd.C_alloc ?_ _) | (with_reducible refine Kd.C_drewN ?_ _) | (with_reducible refine Kd.C_drew ?_))); (case side2 => exact (Kd.R_reads' HO902.out).2.1); (case side3 => repeat (first | exact (Kd.V_reads' HO_0.out).2.2 | (with_reducible refine Kd.C_alloc ?_ _) | (with_reducible refine Kd.C_drewN ?_ _) | (with_reducible refine Kd.C_drew ?_))); (case side4 => exact (Kd.V_reads' HO_0.out).2.1); rintro e w' ⟨rfl, ⟨nd, rfl⟩⟩; (try first | exact ⟨rfl, _, World.drewN_drewN _ _ _⟩ | exact ⟨rfl, _, Eq.trans (World.drewN_drewN _ _ _) (congrArg (World.drewN _) (Nat.add_assoc _ _ _))⟩))); try go_wp2_with (first | (go_at_call 19; (with_reducible refine (pomaderef07_Diagram.calls kj8 _ _ l0 t906 _ ?side1 ?side2 A41.out).mono ?_); (case side1 => repeat (first | exact (Kd.V_reads' HO_0.out).2.2 | (with_reducible refine Kd.C_alloc ?_ _) | (with_reducible refine Kd.C_drewN ?_ _) | (with_reducible refine Kd.C_drew ?_))); (case side2 => exact (Kd.V_reads' HO_0.out).2.1); rintro e w' ⟨rfl, ⟨nd, rfl⟩⟩; (try first | exact ⟨rfl, _, World.drewN_drewN _ _ _⟩ | exact ⟨rfl, _, Eq.trans (World.drewN_drewN _ _ _) (congrArg (World.drewN _) (Nat.add_assoc _ _ _))⟩); obtain ⟨Ao52, co52, eo52⟩ := Kd.R_slice HO902.out; subst eo52) | (go_at_call 23; (with_reducible refine (pomadelaw07_same.calls kj8 _ _ t899 _ _ l0 false _ ?side1 ?side2 ?side3 ?side4 A45.out).mono ?_); (case side1 => repeat (first | exact (Kd.R_reads' HO902.out).2.2 | (with_reducible refine Kd.C_alloc ?_ _) | (with_reducible refine Kd.C_drewN ?_ _) | (with_reducible refine Kd.C_drew ?_))); (case side2 => exact (Kd.R_reads' HO902.out).2.1); (case side3 => repeat (first | exact (Kd.V_reads' HO_0.out).2.2 | (with_reducible refine Kd.C_alloc ?_ _) | (with_reducible refine Kd.C_drewN ?_ _) | (with_reducible refine Kd.C_drew ?_))); (case side4 => exact (Kd.V_reads' HO_0.out).2.1); rintro e w' ⟨rfl, ⟨nd, rfl⟩⟩; (try first | exact ⟨rfl, _, World.drewN_drewN _ _ _⟩ | exact ⟨rfl, _, Eq.trans (World.drewN_drewN _ _ _) (congrArg (World.drewN _) (Nat.add_assoc _ _ _))⟩))))
            go_meet
            case rel => exact ⟨_, (true), (by first | rfl | (simp; done) | (simp [*]; done)), H', ⟨by have := HJ2.out; have := HJ8.out; first | omega | exact Nat.le_refl _⟩, ⟨by (with_reducible repeat (first | apply Kd.V_alloc | apply Kd.V_drewN | apply Kd.V_drew)); exact Kd.V_mono HO_0.out (fun _ hk => hk.1)⟩, ⟨by repeat (first | (with_reducible first | exact HB.out | apply below_alloc | apply pw_below_drewN | apply below_drew1) | exact HB.out)⟩⟩
          ·rw [if_neg c44] at H
           have c44b0 : (t905 == 0) = false := beq_eq_false_iff_ne.mpr c44
           have c44b1 : (t905 != 0) = true := bne_iff_ne.mpr c44
           have H' := Aside0.mk H
           clear H
           go_wp2_with (first | (go_at_call 19; (with_reducible refine (pomaderef07_Diagram.calls kj8 _ _ l0 t906 _ ?side1 ?side2 A41.out).mono ?_); (case side1 => repeat (first | exact (Kd.V_reads' HO_0.out).2.2 | (with_reducible refine Kd.C_alloc ?_ _) | (with_reducible refine Kd.C_drewN ?_ _) | (with_reducible refine Kd.C_drew ?_))); (case side2 => exact (Kd.V_reads' HO_0.out).2.1); rintro e w' ⟨rfl, ⟨nd, rfl⟩⟩; (try first | exact ⟨rfl, _, World.drewN_drewN _ _ _⟩ | exact ⟨rfl, _, Eq.trans (World.drewN_drewN _ _ _) (congrArg (World.drewN _) (Nat.add_assoc _ _ _))⟩)))
           repeat (go_quiet (first | (go_at_call 19; (with_reducible refine (pomaderef07_Diagram.calls kj8 _ _ l0 t906 _ ?side1 ?side2 A41.out).mono ?_); (case side1 => repeat (first | exact (Kd.V_reads' HO_0.out).2.2 | (with_reducible refine Kd.C_alloc ?_ _) | (with_reducible refine Kd.C_drewN ?_ _) | (with_reducible refine Kd.C_drew ?_))); (case side2 => exact (Kd.V_reads' HO_0.out).2.1); rintro e w' ⟨rfl, ⟨nd, rfl⟩⟩; (try first | exact ⟨rfl, _, World.drewN_drewN _ _ _⟩ | exact ⟨rfl, _, Eq.trans (World.drewN_drewN _ _ _) (congrArg (World.drewN _) (Nat.add_assoc _ _ _))⟩))); try go_wp2_with (first | (go_at_call 19; (with_reducible refine (pomaderef07_Diagram.calls kj8 _ _ l0 t906 _ ?side1 ?side2 A41.out).mono ?_); (case side1 => repeat (first | exact (Kd.V_reads' HO_0.out).2.2 | (with_reducible refine Kd.C_alloc ?_ _) | (with_reducible refine Kd.C_drewN ?_ _) | (with_reducible refine Kd.C_drew ?_))); (case side2 => exact (Kd.V_reads' HO_0.out).2.1); rintro e w' ⟨rfl, ⟨nd, rfl⟩⟩; (try first | exact ⟨rfl, _, World.drewN_drewN _ _ _⟩ | exact ⟨rfl, _, Eq.trans (World.drewN_drewN _ _ _) (congrArg (World.drewN _) (Nat.add_assoc _ _ _))⟩))))
           go_meet
           case rel => exact ⟨_, (true), (by first | rfl | (simp; done) | (simp [*]; done)), H', ⟨by have := HJ2.out; have := HJ8.out; first | omega | exact Nat.le_refl _⟩, ⟨by (with_reducible repeat (first | apply Kd.V_alloc | apply Kd.V_drewN | apply Kd.V_drew)); exact Kd.V_mono HO_0.out (fun _ hk => hk.1)⟩, ⟨by repeat (first | (with_reducible first | exact HB.out | apply below_alloc | apply pw_below_drewN | apply below_drew1) | exact HB.out)⟩⟩
         ·rw [if_neg c43] at H
          have c43b0 : (t900 == 0) = false := beq_eq_false_iff_ne.mpr c43
          have c43b1 : (t900 != 0) = true := bne_iff_ne.mpr c43
          have H' := Aside0.mk H
          clear H
          go_wp2_with (first | (go_at_call 19; (with_reducible refine (pomaderef07_Diagram.calls kj8 _ _ l0 t906 _ ?side1 ?side2 A41.out).mono ?_); (case side1 => repeat (first | exact (Kd.V_reads' HO_0.out).2.2 | (with_reducible refine Kd.C_alloc ?_ _) | (with_reducible refine Kd.C_drewN ?_ _) | (with_reducible refine Kd.C_drew ?_))); (case side2 => exact (Kd.V_reads' HO_0.out).2.1); rintro e w' ⟨rfl, ⟨nd, rfl⟩⟩; (try first | exact ⟨rfl, _, World.drewN_drewN _ _ _⟩ | exact ⟨rfl, _, Eq.trans (World.drewN_drewN _ _ _) (congrArg (World.drewN _) (Nat.add_assoc _ _ _))⟩)))
          repeat (go_quiet (first | (go_at_call 19; (with_reducible refine (pomaderef07_Diagram.calls kj8 _ _ l0 t906 _ ?side1 ?side2 A41.out).mono ?_); (case side1 => repeat (first | exact (Kd.V_reads' HO_0.out).2.2 | (with_reducible refine Kd.C_alloc ?_ _) | (with_reducible refine Kd.C_drewN ?_ _) | (with_reducible refine Kd.C_drew ?_))); (case side2 => exact (Kd.V_reads' HO_0.out).2.1); rintro e w' ⟨rfl, ⟨nd, rfl⟩⟩; (try first | exact ⟨rfl, _, World.drewN_drewN _ _ _⟩ | exact ⟨rfl, _, Eq.trans (World.drewN_drewN _ _ _) (congrArg (World.drewN _) (Nat.add_assoc _ _ _))⟩))); try go_wp2_with (first | (go_at_call 19; (with_reducible refine (pomaderef07_Diagram.calls kj8 _ _ l0 t906 _ ?side1 ?side2 A41.out).mono ?_); (case side1 => repeat (first | exact (Kd.V_reads' HO_0.out).2.2 | (with_reducible refine Kd.C_alloc ?_ _) | (with_reducible refine Kd.C_drewN ?_ _) | (with_reducible refine Kd.C_drew ?_))); (case side2 => exact (Kd.V_reads' HO_0.out).2.1); rintro e w' ⟨rfl, ⟨nd, rfl⟩⟩; (try first | exact ⟨rfl, _, World.drewN_drewN _ _ _⟩ | exact ⟨rfl, _, Eq.trans (World.drewN_drewN _ _ _) (congrArg (World.drewN _) (Nat.add_assoc _ _ _))⟩))))
          go_meet
          case rel => exact ⟨_, (true), (by first | rfl | (simp; done) | (simp [*]; done)), H', ⟨by have := HJ2.out; have := HJ8.out; first | omega | exact Nat.le_refl _⟩, ⟨by (with_reducible repeat (first | apply Kd.V_alloc | apply Kd.V_drewN | apply Kd.V_drew)); exact Kd.V_mono HO_0.out (fun _ hk => hk.1)⟩, ⟨by repeat (first | (with_reducible first | exact HB.out | apply below_alloc | apply pw_below_drewN | apply below_drew1) | exact HB.out)⟩⟩
        ·rw [if_neg c42] at H
         have c42b0 : (t906 == 0) = false := beq_eq_false_iff_ne.mpr c42
         have c42b1 : (t906 != 0) = true := bne_iff_ne.mpr c42
         (first | rw [c42b0] | (simp only [i64_w, i32_w]; rw [c42b0]) | skip)
         have H' := Aside0.mk H
         clear H
         go_wp2_with (first | (go_at_call 19; (with_reducible refine (pomaderef07_Diagram.calls kj8 _ _ l0 t906 _ ?side1 ?side2 A41.out).mono ?_); (case side1 => repeat (first | exact (Kd.V_reads' HO_0.out).2.2 | (with_reducible refine Kd.C_alloc ?_ _) | (with_reducible refine Kd.C_drewN ?_ _) | (with_reducible refine Kd.C_drew ?_))); (case side2 => exact (Kd.V_reads' HO_0.out).2.1); rintro e w' ⟨rfl, ⟨nd, rfl⟩⟩; (try first | exact ⟨rfl, _, World.drewN_drewN _ _ _⟩ | exact ⟨rfl, _, Eq.trans (World.drewN_drewN _ _ _) (congrArg (World.drewN _) (Nat.add_assoc _ _ _))⟩)))
         repeat (go_quiet (first | (go_at_call 19; (with_reducible refine (pomaderef07_Diagram.calls kj8 _ _ l0 t906 _ ?side1 ?side2 A41.out).mono ?_); (case side1 => repeat (first | exact (Kd.V_reads' HO_0.out).2.2 | (with_reducible refine Kd.C_alloc ?_ _) | (with_reducible refine Kd.C_drewN ?_ _) | (with_reducible refine Kd.C_drew ?_))); (case side2 => exact (Kd.V_reads' HO_0.out).2.1); rintro e w' ⟨rfl, ⟨nd, rfl⟩⟩; (try first | exact ⟨rfl, _, World.drewN_drewN _ _ _⟩ | exact ⟨rfl, _, Eq.trans (World.drewN_drewN _ _ _) (congrArg (World.drewN _) (Nat.add_assoc _ _ _))⟩))); try go_wp2_with (first | (go_at_call 19; (with_reducible refine (pomaderef07_Diagram.calls kj8 _ _ l0 t906 _ ?side1 ?side2 A41.out).mono ?_); (case side1 => repeat (first | exact (Kd.V_reads' HO_0.out).2.2 | (with_reducible refine Kd.C_alloc ?_ _) | (with_reducible refine Kd.C_drewN ?_ _) | (with_reducible refine Kd.C_drew ?_))); (case side2 => exact (Kd.V_reads' HO_0.out).2.1); rintro e w' ⟨rfl, ⟨nd, rfl⟩⟩; (try first | exact ⟨rfl, _, World.drewN_drewN _ _ _⟩ | exact ⟨rfl, _, Eq.trans (World.drewN_drewN _ _ _) (congrArg (World.drewN _) (Nat.add_assoc _ _ _))⟩))))
         go_meet
         case rel => exact ⟨_, (true), (by first | rfl | (simp; done) | (simp [*]; done)), H', ⟨by have := HJ2.out; have := HJ8.out; first | omega | exact Nat.le_refl _⟩, ⟨by (with_reducible repeat (first | apply Kd.V_alloc | apply Kd.V_drewN | apply Kd.V_drew)); exact Kd.V_mono HO_0.out (fun _ hk => hk.1)⟩, ⟨by repeat (first | (with_reducible first | exact HB.out | apply below_alloc | apply pw_below_drewN | apply below_drew1) | exact HB.out)⟩⟩
       case rest =>
        clear HC37
        try clear c1
        try clear p2
        try clear c3
        try clear c4
        try clear c4b0
        try clear c4b1
        try clear c5
        try clear p6
        try clear c11
        try clear c11b0
        try clear c11b1
        try clear c14
        try clear c14b0
        try clear c14b1
        try clear c15
        try clear c15b0
        try clear c15b1
        try clear c16
        try clear c16b0
        try clear c16b1
        try clear c17
        try clear c18
        try clear c34
        try clear c34b0
        try clear c34b1
        try clear c42
        try clear c42b0
        try clear c42b1
        try clear c43
        try clear c43b0
        try clear c43b1
        try clear c44
        try clear c44b0
        try clear c44b1
        try clear c46
        try clear c47
        try clear c47b0
        try clear c49
        try clear c49b0
        try clear p2
        try clear p6
        obtain ⟨kq, x122_36, rfl, HA, HJ36, HO_0, HB⟩ := hcut
        cases kq with
        | zero => exact absurd HA.out (by simp [pomadelaw07_PlaitBent.j2])
        | succ kj36 =>
         have H := HA.out
         clear HA
         simp only [pomadelaw07_PlaitBent.j2] at H
         by_cases c53 : x122_36 = true
         ·subst c53
          have H1 : (some false) = some r := by rw [if_pos rfl] at H; exact H
          clear H
          have H := H1
          clear H1
          obtain rfl := Option.some.inj H
          go_wp2
          repeat (go_quiet (fail); try go_wp2)
          go_ret
          exact ⟨by first | rfl | (simp [errW_none, errW_some] <;> rfl) | (simp [*, errW_none, errW_some] <;> rfl), by repeat (first | (with_reducible first | exact HB.out | apply below_alloc | apply pw_below_drewN | apply below_drew1) | exact HB.out)⟩
         ·replace c53 := Bool.eq_false_iff.mpr c53
          subst c53
          have H1 : (pomadelaw07_PlaitBent.l0 kj36 l0 t903 t904 (([l0] : List (List Int)))) = some r := by rw [if_neg (show ¬ (false = true) by decide)] at H; exact H
          clear H
          have H := H1
          clear H1
          obtain ⟨y908, hy908⟩ : ∃ y_ : List (List Int), y_ = (([l0] : List (List Int))) := ⟨_, rfl⟩
          replace H : (pomadelaw07_PlaitBent.l0 kj36 l0 t903 t904 y908) = some r := by first | (rw [hy908]; with_reducible exact H) | (have H2_ := (Option.bind_some _ _).symm.trans H; rw [hy908]; with_reducible exact H2_) | (have H2_ := (Option.bind_some _ _).symm.trans H; with_reducible exact H2_) | with_reducible exact H | (rw [hy908]; exact H) | exact H
          have Ny908 := Aside0.mk hy908
          clear hy908
          have H' := Aside0.mk H
          clear H
          go_wp2_with (first | ((with_reducible refine gate_dst (N := 124) rfl ?_); (try (refine gate_guard (by rfl) ?_; dsimp only)); refine Kd.N_lit (Kd.slice 3 (Kd.int .i64)) _ 22 ?hg (N' := 124) ?hd (xs := ([l0] : List (List Int))) (inner := [.slice A0 l0.length c0]) (ok := (fun k_ => (P0_ k_ ∨ w.heap.size ≤ k_))) (okp := (fun k_ => (P0_ k_ ∨ w.heap.size ≤ k_))) ?hr ?hp (fun _ hk => hk) ((show ∀ k_, wc.heap.size ≤ k_ → (fun k_ => (P0_ k_ ∨ w.heap.size ≤ k_)) k_ from fun k_ hk => (.inr (Nat.le_trans (below_size (by repeat (first | (with_reducible first | exact HB.out | apply below_alloc | apply pw_below_drewN | apply below_drew1) | exact HB.out))) hk))) _ (Nat.le_refl _)) (Below.refl _ _) (Nat.le_refl _) (by simp) ?_; (case hd => rfl); (case hg => rfl); (case hr => first | (go_simp; done) | (go_simp; rfl)); (case hp => exact (Reps.one (show Kd.FK (Kd.slice 3 (Kd.int .i64)) _ _ l0 [.slice A0 l0.length c0] from (Kd.FK_slice_mk (Kd.V_reads' (Kd.V_mono (ok' := (fun k_ => (P0_ k_ ∨ w.heap.size ≤ k_))) (HO_0.out) (fun k_ hk => hk))).2.1 (Kd.V_F (Kd.V_mono (ok' := (fun k_ => (P0_ k_ ∨ w.heap.size ≤ k_))) (by (with_reducible repeat (first | apply Kd.V_alloc | apply Kd.V_drewN | apply Kd.V_drew)); exact HO_0.out) (fun k_ hk => hk))))) (Reps.none _ _))); intro v909 w54 ho55 hb hg_ hnew_; clear hg_ hnew_; (first | rw [← Ny908.out] at ho55 | (simp only [Int.reduceToNat] at ho55; rw [← Ny908.out] at ho55)); have n0_ := Aside0.mk (Kd.V_elder' (by (with_reducible repeat (first | apply Kd.V_alloc | apply Kd.V_drewN | apply Kd.V_drew)); exact HO_0.out) (Kd.N_base ho55) hb); have n1_ := Aside0.mk (Kd.N_lower ho55 (below_size (by repeat (first | (with_reducible first | exact HB.out | apply below_alloc | apply pw_below_drewN | apply below_drew1) | exact HB.out)))); have n2_ := Aside0.mk (below_step (by repeat (first | (with_reducible first | exact HB.out | apply below_alloc | apply pw_below_drewN | apply below_drew1) | exact HB.out)) hb); clear HO_0; clear HB; have HO_0 := n0_; have HO910 := n1_; have HB := n2_; clear n0_ n1_ n2_; clear hb ho55))
          repeat (go_quiet (first | ((with_reducible refine gate_dst (N := 124) rfl ?_); (try (refine gate_guard (by rfl) ?_; dsimp only)); refine Kd.N_lit (Kd.slice 3 (Kd.int .i64)) _ 22 ?hg (N' := 124) ?hd (xs := ([l0] : List (List Int))) (inner := [.slice A0 l0.length c0]) (ok := (fun k_ => (P0_ k_ ∨ w.heap.size ≤ k_))) (okp := (fun k_ => (P0_ k_ ∨ w.heap.size ≤ k_))) ?hr ?hp (fun _ hk => hk) ((show ∀ k_, wc.heap.size ≤ k_ → (fun k_ => (P0_ k_ ∨ w.heap.size ≤ k_)) k_ from fun k_ hk => (.inr (Nat.le_trans (below_size (by repeat (first | (with_reducible first | exact HB.out | apply below_alloc | apply pw_below_drewN | apply below_drew1) | exact HB.out))) hk))) _ (Nat.le_refl _)) (Below.refl _ _) (Nat.le_refl _) (by simp) ?_; (case hd => rfl); (case hg => rfl); (case hr => first | (go_simp; done) | (go_simp; rfl)); (case hp => exact (Reps.one (show Kd.FK (Kd.slice 3 (Kd.int .i64)) _ _ l0 [.slice A0 l0.length c0] from (Kd.FK_slice_mk (Kd.V_reads' (Kd.V_mono (ok' := (fun k_ => (P0_ k_ ∨ w.heap.size ≤ k_))) (HO_0.out) (fun k_ hk => hk))).2.1 (Kd.V_F (Kd.V_mono (ok' := (fun k_ => (P0_ k_ ∨ w.heap.size ≤ k_))) (by (with_reducible repeat (first | apply Kd.V_alloc | apply Kd.V_drewN | apply Kd.V_drew)); exact HO_0.out) (fun k_ hk => hk))))) (Reps.none _ _))); intro v909 w54 ho55 hb hg_ hnew_; clear hg_ hnew_; (first | rw [← Ny908.out] at ho55 | (simp only [Int.reduceToNat] at ho55; rw [← Ny908.out] at ho55)); have n0_ := Aside0.mk (Kd.V_elder' (by (with_reducible repeat (first | apply Kd.V_alloc | apply Kd.V_drewN | apply Kd.V_drew)); exact HO_0.out) (Kd.N_base ho55) hb); have n1_ := Aside0.mk (Kd.N_lower ho55 (below_size (by repeat (first | (with_reducible first | exact HB.out | apply below_alloc | apply pw_below_drewN | apply below_drew1) | exact HB.out)))); have n2_ := Aside0.mk (below_step (by repeat (first | (with_reducible first | exact HB.out | apply below_alloc | apply pw_below_drewN | apply below_drew1) | exact HB.out)) hb); clear HO_0; clear HB; have HO_0 := n0_; have HO910 := n1_; have HB := n2_; clear n0_ n1_ n2_; clear hb ho55)); try go_wp2_with (first | ((with_reducible refine gate_dst (N := 124) rfl ?_); (try (refine gate_guard (by rfl) ?_; dsimp only)); refine Kd.N_lit (Kd.slice 3 (Kd.int .i64)) _ 22 ?hg (N' := 124) ?hd (xs := ([l0] : List (List Int))) (inner := [.slice A0 l0.length c0]) (ok := (fun k_ => (P0_ k_ ∨ w.heap.size ≤ k_))) (okp := (fun k_ => (P0_ k_ ∨ w.heap.size ≤ k_))) ?hr ?hp (fun _ hk => hk) ((show ∀ k_, wc.heap.size ≤ k_ → (fun k_ => (P0_ k_ ∨ w.heap.size ≤ k_)) k_ from fun k_ hk => (.inr (Nat.le_trans (below_size (by repeat (first | (with_reducible first | exact HB.out | apply below_alloc | apply pw_below_drewN | apply below_drew1) | exact HB.out))) hk))) _ (Nat.le_refl _)) (Below.refl _ _) (Nat.le_refl _) (by simp) ?_; (case hd => rfl); (case hg => rfl); (case hr => first | (go_simp; done) | (go_simp; rfl)); (case hp => exact (Reps.one (show Kd.FK (Kd.slice 3 (Kd.int .i64)) _ _ l0 [.slice A0 l0.length c0] from (Kd.FK_slice_mk (Kd.V_reads' (Kd.V_mono (ok' := (fun k_ => (P0_ k_ ∨ w.heap.size ≤ k_))) (HO_0.out) (fun k_ hk => hk))).2.1 (Kd.V_F (Kd.V_mono (ok' := (fun k_ => (P0_ k_ ∨ w.heap.size ≤ k_))) (by (with_reducible repeat (first | apply Kd.V_alloc | apply Kd.V_drewN | apply Kd.V_drew)); exact HO_0.out) (fun k_ hk => hk))))) (Reps.none _ _))); intro v909 w54 ho55 hb hg_ hnew_; clear hg_ hnew_; (first | rw [← Ny908.out] at ho55 | (simp only [Int.reduceToNat] at ho55; rw [← Ny908.out] at ho55)); have n0_ := Aside0.mk (Kd.V_elder' (by (with_reducible repeat (first | apply Kd.V_alloc | apply Kd.V_drewN | apply Kd.V_drew)); exact HO_0.out) (Kd.N_base ho55) hb); have n1_ := Aside0.mk (Kd.N_lower ho55 (below_size (by repeat (first | (with_reducible first | exact HB.out | apply below_alloc | apply pw_below_drewN | apply below_drew1) | exact HB.out)))); have n2_ := Aside0.mk (below_step (by repeat (first | (with_reducible first | exact HB.out | apply below_alloc | apply pw_below_drewN | apply below_drew1) | exact HB.out)) hb); clear HO_0; clear HB; have HO_0 := n0_; have HO910 := n1_; have HB := n2_; clear n0_ n1_ n2_; clear hb ho55)))
          go_loopg [17] kj36 (fun kq v17 w' => ∃ (x17_4 : List (List Int)), Aside0 (pomadelaw07_PlaitBent.l0 kq l0 t903 t904 x17_4 = some r) ∧ Aside0 (kq ≤ kj36) ∧ Aside0 (Kd.V (Kd.int .i64) 3 w' w.heap.size (fun k_ => (P0_ k_ ∨ w.heap.size ≤ k_) ∧ some k_ ≠ (v17 : Value).ownBlock) (.slice A0 l0.length c0) l0) ∧ Aside0 (Kd.N (Kd.slice 3 (Kd.int .i64)) 22 w' w.heap.size (fun k_ => (P0_ k_ ∨ w.heap.size ≤ k_)) v17 x17_4) ∧ Aside0 (Below w.heap.size w w'))
          case atStart => exact ⟨(y908), H', ⟨Nat.le_refl _⟩, ⟨by (with_reducible repeat (first | apply Kd.V_alloc | apply Kd.V_drewN | apply Kd.V_drew)); exact HO_0.out⟩, ⟨by (with_reducible repeat (first | apply Kd.N_alloc | apply Kd.N_drewN | apply Kd.N_drew)); exact HO910.out⟩, ⟨by repeat (first | (with_reducible first | exact HB.out | apply below_alloc | apply pw_below_drewN | apply below_drew1) | exact HB.out)⟩⟩
          case round =>
           clear H'
           try clear c1
           try clear p2
           try clear c3
           try clear c4
           try clear c4b0
           try clear c4b1
           try clear c5
           try clear p6
           try clear c11
           try clear c11b0
           try clear c11b1
           try clear c14
           try clear c14b0
           try clear c14b1
           try clear c15
           try clear c15b0
           try clear c15b1
           try clear c16
           try clear c16b0
           try clear c16b1
           try clear c17
           try clear c18
           try clear c34
           try clear c34b0
           try clear c34b1
           try clear c42
           try clear c42b0
           try clear c42b1
           try clear c43
           try clear c43b0
           try clear c43b1
           try clear c44
           try clear c44b0
           try clear c44b1
           try clear c46
           try clear c47
           try clear c47b0
           try clear c49
           try clear c49b0
           try clear c53
           try clear p2
           try clear p6
           obtain ⟨x17_4, HA, HK4, HO_0, HO_17, HB⟩ := hrel
           cases gk with
           | zero => exact absurd HA.out (by simp [pomadelaw07_PlaitBent.l0])
           | succ k4 =>
            have H := HA.out
            clear HA
            simp only [pomadelaw07_PlaitBent.l0] at H
            by_cases c56 : (x17_4.length : Int) < t904
            ·rw [if_pos c56] at H
             have c56b0 : decide ((x17_4.length : Int) < t904) = true := decide_eq_true c56
             clear c56
             obtain ⟨ji57, hji57⟩ : ∃ j_ : Int, (wrap64 ((x17_4.length : Int) - 1)) = j_ := ⟨_, rfl⟩
             replace H : (if 0 ≤ (ji57) then (if (ji57) < (x17_4.length : Int) then ((plait_Product.f k4 (rd_L3 x17_4 (ji57)) l0).bind fun bt912 => (if bt912.2.2 = 0 then (if x17_4.length < 5864062014805 then (pomadelaw07_PlaitBent.l0 k4 l0 t903 t904 (x17_4 ++ [bt912.1])) else (none)) else (some false))) else (none)) else (none)) = some r := by first | (rw [hji57] at H; exact H) | (simp only [hji57] at H ⊢; exact H)
             have hji57w : (IntKind.i64.wrap ((x17_4.length : Int) - 1)) = ji57 := (i64_w _).trans hji57
             by_cases c58 : 0 ≤ (ji57)
             ·rw [if_pos c58] at H
              have c58b0 : decide (0 ≤ (ji57)) = true := decide_eq_true c58
              clear c58
              by_cases c59 : (ji57) < (x17_4.length : Int)
              ·rw [if_pos c59] at H
               have c59b0 : decide ((ji57) < (x17_4.length : Int)) = true := decide_eq_true c59
               clear c59
               replace H := Option.bind_eq_some_iff.mp H
               obtain ⟨⟨t912, t913, t914⟩, A600, H⟩ := H
               replace H : (if t914 = 0 then (if x17_4.length < 5864062014805 then (pomadelaw07_PlaitBent.l0 k4 l0 t903 t904 (x17_4 ++ [t912])) else (none)) else (some false)) = some r := H
               have A60 := Aside0.mk A600
               clear A600
               by_cases c61 : t914 = 0
               ·rw [if_pos c61] at H
                have c61b0 : (t914 == 0) = true := beq_iff_eq.mpr c61
                have c61b1 : (t914 != 0) = false := bne_eq_false_iff_eq.mpr c61
                clear c61
                by_cases c62 : x17_4.length < 5864062014805
                ·rw [if_pos c62] at H
                 have LMc62 := Aside0.mk c62
                 clear c62
                 obtain ⟨y917, hy917⟩ : ∃ y_ : List (List Int), y_ = (x17_4 ++ [t912]) := ⟨_, rfl⟩
                 replace H : (pomadelaw07_PlaitBent.l0 k4 l0 t903 t904 y917) = some r := by first | (rw [hy917]; with_reducible exact H) | (have H2_ := (Option.bind_some _ _).symm.trans H; rw [hy917]; with_reducible exact H2_) | (have H2_ := (Option.bind_some _ _).symm.trans H; with_reducible exact H2_) | with_reducible exact H | (rw [hy917]; exact H) | exact H
                 have Ny917 := Aside0.mk hy917
                 clear hy917
                 have H' := Aside0.mk H
                 clear H
                 obtain ⟨Ao63, co63, eo63⟩ := Kd.N_slice HO_17.out
                 subst eo63
                 have p911 : 0 ≤ ((ji57) : Int) := of_decide_eq_true (by first | (with_reducible assumption) | assumption)
                 have q911 : (ji57) < (x17_4.length : Int) := of_decide_eq_true (by first | (with_reducible assumption) | assumption)
                 obtain ⟨ad911, A911_0, c911_0, e911, hx911_0, hl911_0, hi911_0⟩ := at_L3 (Kd.N_reads' HO_17.out).2.2 (ji57) p911 q911
                 cases e911
                 obtain ⟨ce911, hce911, hMe911, hcc911⟩ := Kd.N_get HO_17.out [] (ji57) p911 (by first | exact q911 | exact of_decide_eq_true (by first | (with_reducible assumption) | assumption) | (have e_ := (Kd.N_reads' HO_17.out).1; omega))
                 obtain ⟨ua911_0, uc911_0, rfl, ul911_0, ge911_0⟩ := Kd.FK_slice_open hMe911
                 have hv911_0 := hcc911 0 _ rfl
                 rw [Nat.add_zero, show ((Kd.slice 3 (Kd.int .i64))).sz = 1 from rfl, Nat.mul_one] at hv911_0
                 replace hv911_0 := Option.some.inj (hv911_0.symm.trans hx911_0)
                 injection hv911_0 with hva_ hvn_ hvc_
                 rw [hva_] at ge911_0
                 rw [hvc_] at ul911_0
                 have HL911_0 := Aside0.mk (show Kd.V (Kd.int .i64) 3 _ w.heap.size _ _ (rd_L3 x17_4 (ji57)) from Kd.V_mk ul911_0 ge911_0)
                 clear hva_ hvn_ hvc_ ge911_0 ul911_0
                 clear hcc911 hce911
                 have HR911_0 := Aside0.mk hi911_0
                 have HC911_0 := Aside0.mk hl911_0
                 clear hi911_0 hl911_0
                 replace p911 := eq_true p911
                 replace q911 := eq_true q911
                 go_wp2_with (first | (go_at_call 27; (with_reducible refine (plait_Product.calls k4 _ _ (rd_L3 x17_4 (ji57)) _ _ l0 t912 t913 t914 _ ?side1 ?side2 ?side3 ?side4 A60.out).mono ?_); (case side1 => repeat (first | exact (by repeat (first | (with_reducible exact HR911_0.out) | (with_reducible refine Kd.C_alloc ?_ _) | (with_reducible refine Kd.C_drewN ?_ _) | (with_reducible refine Kd.C_drew ?_) | exact HR911_0.out)) | (with_reducible refine Kd.C_alloc ?_ _) | (with_reducible refine Kd.C_drewN ?_ _) | (with_reducible refine Kd.C_drew ?_))); (case side2 => exact HC911_0.out); (case side3 => repeat (first | exact (Kd.V_reads' HO_0.out).2.2 | (with_reducible refine Kd.C_alloc ?_ _) | (with_reducible refine Kd.C_drewN ?_ _) | (with_reducible refine Kd.C_drew ?_))); (case side4 => exact (Kd.V_reads' HO_0.out).2.1); rintro e w64 ⟨v915, rfl, ho0, hb⟩; have n0_ := Aside0.mk (Kd.V_elder' (by (with_reducible repeat (first | apply Kd.V_alloc | apply Kd.V_drewN | apply Kd.V_drew)); exact HO_0.out) (Kd.R_base ho0) hb); have n1_ := Aside0.mk (Kd.N_elder' (by (with_reducible repeat (first | apply Kd.N_alloc | apply Kd.N_drewN | apply Kd.N_drew)); exact HO_17.out) (Kd.R_base ho0) hb); have n2_ := Aside0.mk (Kd.V_elder' (by (with_reducible repeat (first | apply Kd.V_alloc | apply Kd.V_drewN | apply Kd.V_drew)); exact HL911_0.out) (Kd.R_base ho0) hb); have n3_ := Aside0.mk (Kd.R_lower (Kd.R_newM (M := fun k_ => (w.heap.size ≤ k_)) ho0 (below_size (by repeat (first | (with_reducible first | exact HB.out | apply below_alloc | apply pw_below_drewN | apply below_drew1) | exact HB.out))) (fun k_ h_ => h_)) (below_size (by repeat (first | (with_reducible first | exact HB.out | apply below_alloc | apply pw_below_drewN | apply below_drew1) | exact HB.out)))); have n4_ := Aside0.mk (Kd.C_below (by repeat (first | (with_reducible exact HR911_0.out) | (with_reducible refine Kd.C_alloc ?_ _) | (with_reducible refine Kd.C_drewN ?_ _) | (with_reducible refine Kd.C_drew ?_) | exact HR911_0.out)) hb); have n5_ := Aside0.mk (below_step (by repeat (first | (with_reducible first | exact HB.out | apply below_alloc | apply pw_below_drewN | apply below_drew1) | exact HB.out)) hb); clear HO_0; clear HO_17; clear HL911_0; clear HR911_0; clear HB; have HO_0 := n0_; have HO_17 := n1_; have HL911_0 := n2_; have HO916 := n3_; have HR911_0 := n4_; have HB := n5_; clear n0_ n1_ n2_ n3_ n4_ n5_; (try clear hb); (try clear hb2); (try clear hk); (try clear hi); (try clear ho0); obtain ⟨Ao66, co66, eo66⟩ := Kd.R_slice HO916.out; subst eo66) | ((with_reducible refine gate_builtin (b := .append) (xs := #[.tmp 143, .tmp 145]) rfl ?_); (try (refine gate_guard (by rfl) ?_; dsimp only)); at_builtin; refine Kd.N_append (Kd.slice 3 (Kd.int .i64)) (w0 := w) w.heap.size rfl (.tmp 143) (.tmp 145) 62 22 (.slice none 0 0) 24 rfl Try.underlying62 info22 rfl (by decide) (by omega) (.slice (some ad911) x17_4.length co63) x17_4 t912 [.slice Ao66 t912.length co66] (fun k_ => (P0_ k_ ∨ w.heap.size ≤ k_)) (fun k_ => ((fun k_ => (P0_ k_ ∨ w.heap.size ≤ k_))) k_ ∧ some k_ ≠ (.slice (some ad911) x17_4.length co63 : Value).ownBlock) rfl rfl ?aP (fun _ hk => hk) ?aF ?aO ?aB ?aS ?aL ?_; (case aP => exact (Kd.FK_slice_mk (Kd.R_reads' (Kd.R_mono (ok' := (fun k_ => ((fun k_ => (P0_ k_ ∨ w.heap.size ≤ k_))) k_ ∧ some k_ ≠ (.slice (some ad911) x17_4.length co63 : Value).ownBlock)) (Kd.R_apart' (HO916.out) (Kd.N_typed HO_17.out) (by decide)) (fun k_ hk => ⟨(.inr (hk.1.1)), hk.2⟩))).2.1 (Kd.R_F (Kd.R_mono (ok' := (fun k_ => ((fun k_ => (P0_ k_ ∨ w.heap.size ≤ k_))) k_ ∧ some k_ ≠ (.slice (some ad911) x17_4.length co63 : Value).ownBlock)) (Kd.R_apart' (HO916.out) (Kd.N_typed HO_17.out) (by decide)) (fun k_ hk => ⟨(.inr (hk.1.1)), hk.2⟩))))); (case aB => exact (by repeat (first | (with_reducible first | exact HB.out | apply below_alloc | apply pw_below_drewN | apply below_drew1) | exact HB.out))); (case aF => exact (fun k_ hk => (.inr (Nat.le_trans (below_size (by repeat (first | (with_reducible first | exact HB.out | apply below_alloc | apply pw_below_drewN | apply below_drew1) | exact HB.out))) hk)))); (case aO => exact (by (with_reducible repeat (first | apply Kd.N_alloc | apply Kd.N_drewN | apply Kd.N_drew)); exact Kd.N_mono HO_17.out (fun _ hk => hk.1))); (case aS => exact (below_size (by repeat (first | (with_reducible first | exact HB.out | apply below_alloc | apply pw_below_drewN | apply below_drew1) | exact HB.out)))); (case aL => have := LMc62.out; omega); intro v918 w65 ho hb hg hat; rw [← Ny917.out] at ho; have n0_ := Aside0.mk (Kd.V_afterv (ok := (fun k_ => (P0_ k_ ∨ w.heap.size ≤ k_) ∧ some k_ ≠ (.slice Ao66 t912.length co66 : Value).ownBlock)) (by (with_reducible repeat (first | apply Kd.V_alloc | apply Kd.V_drewN | apply Kd.V_drew)); exact Kd.V_mono HO_0.out (fun _ hk => ⟨⟨hk.1.1, hk.2⟩, hk.1.2⟩)) hg hat); have n1_ := Aside0.mk (Kd.V_afterv (ok := (fun k_ => (P0_ k_ ∨ w.heap.size ≤ k_) ∧ some k_ ≠ (.slice Ao66 t912.length co66 : Value).ownBlock)) (by (with_reducible repeat (first | apply Kd.V_alloc | apply Kd.V_drewN | apply Kd.V_drew)); exact Kd.V_mono HL911_0.out (fun _ hk => ⟨⟨hk.1.1, hk.2⟩, hk.1.2⟩)) hg hat); have n2_ := Aside0.mk (hb); have n3_ := Aside0.mk (ho); clear HO_0; clear HL911_0; clear HB; clear HO_17; clear HO916; have HO_0 := n0_; have HL911_0 := n1_; have HB := n2_; have HO919 := n3_; clear n0_ n1_ n2_ n3_; clear ho hb hg hat))
                 repeat (go_quiet (first | (go_at_call 27; (with_reducible refine (plait_Product.calls k4 _ _ (rd_L3 x17_4 (ji57)) _ _ l0 t912 t913 t914 _ ?side1 ?side2 ?side3 ?side4 A60.out).mono ?_); (case side1 => repeat (first | exact (by repeat (first | (with_reducible exact HR911_0.out) | (with_reducible refine Kd.C_alloc ?_ _) | (with_reducible refine Kd.C_drewN ?_ _) | (with_reducible refine Kd.C_drew ?_) | exact HR911_0.out)) | (with_reducible refine Kd.C_alloc ?_ _) | (with_reducible refine Kd.C_drewN ?_ _) | (with_reducible refine Kd.C_drew ?_))); (case side2 => exact HC911_0.out); (case side3 => repeat (first | exact (Kd.V_reads' HO_0.out).2.2 | (with_reducible refine Kd.C_alloc ?_ _) | (with_reducible refine Kd.C_drewN ?_ _) | (with_reducible refine Kd.C_drew ?_))); (case side4 => exact (Kd.V_reads' HO_0.out).2.1); rintro e w64 ⟨v915, rfl, ho0, hb⟩; have n0_ := Aside0.mk (Kd.V_elder' (by (with_reducible repeat (first | apply Kd.V_alloc | apply Kd.V_drewN | apply Kd.V_drew)); exact HO_0.out) (Kd.R_base ho0) hb); have n1_ := Aside0.mk (Kd.N_elder' (by (with_reducible repeat (first | apply Kd.N_alloc | apply Kd.N_drewN | apply Kd.N_drew)); exact HO_17.out) (Kd.R_base ho0) hb); have n2_ := Aside0.mk (Kd.V_elder' (by (with_reducible repeat (first | apply Kd.V_alloc | apply Kd.V_drewN | apply Kd.V_drew)); exact HL911_0.out) (Kd.R_base ho0) hb); have n3_ := Aside0.mk (Kd.R_lower (Kd.R_newM (M := fun k_ => (w.heap.size ≤ k_)) ho0 (below_size (by repeat (first | (with_reducible first | exact HB.out | apply below_alloc | apply pw_below_drewN | apply below_drew1) | exact HB.out))) (fun k_ h_ => h_)) (below_size (by repeat (first | (with_reducible first | exact HB.out | apply below_alloc | apply pw_below_drewN | apply below_drew1) | exact HB.out)))); have n4_ := Aside0.mk (Kd.C_below (by repeat (first | (with_reducible exact HR911_0.out) | (with_reducible refine Kd.C_alloc ?_ _) | (with_reducible refine Kd.C_drewN ?_ _) | (with_reducible refine Kd.C_drew ?_) | exact HR911_0.out)) hb); have n5_ := Aside0.mk (below_step (by repeat (first | (with_reducible first | exact HB.out | apply below_alloc | apply pw_below_drewN | apply below_drew1) | exact HB.out)) hb); clear HO_0; clear HO_17; clear HL911_0; clear HR911_0; clear HB; have HO_0 := n0_; have HO_17 := n1_; have HL911_0 := n2_; have HO916 := n3_; have HR911_0 := n4_; have HB := n5_; clear n0_ n1_ n2_ n3_ n4_ n5_; (try clear hb); (try clear hb2); (try clear hk); (try clear hi); (try clear ho0); obtain ⟨Ao66, co66, eo66⟩ := Kd.R_slice HO916.out; subst eo66) | ((with_reducible refine gate_builtin (b := .append) (xs := #[.tmp 143, .tmp 145]) rfl ?_); (try (refine gate_guard (by rfl) ?_; dsimp only)); at_builtin; refine Kd.N_append (Kd.slice 3 (Kd.int .i64)) (w0 := w) w.heap.size rfl (.tmp 143) (.tmp 145) 62 22 (.slice none 0 0) 24 rfl Try.underlying62 info22 rfl (by decide) (by omega) (.slice (some ad911) x17_4.length co63) x17_4 t912 [.slice Ao66 t912.length co66] (fun k_ => (P0_ k_ ∨ w.heap.size ≤ k_)) (fun k_ => ((fun k_ => (P0_ k_ ∨ w.heap.size ≤ k_))) k_ ∧ some k_ ≠ (.slice (some ad911) x17_4.length co63 : Value).ownBlock) rfl rfl ?aP (fun _ hk => hk) ?aF ?aO ?aB ?aS ?aL ?_; (case aP => exact (Kd.FK_slice_mk (Kd.R_reads' (Kd.R_mono (ok' := (fun k_ => ((fun k_ => (P0_ k_ ∨ w.heap.size ≤ k_))) k_ ∧ some k_ ≠ (.slice (some ad911) x17_4.length co63 : Value).ownBlock)) (Kd.R_apart' (HO916.out) (Kd.N_typed HO_17.out) (by decide)) (fun k_ hk => ⟨(.inr (hk.1.1)), hk.2⟩))).2.1 (Kd.R_F (Kd.R_mono (ok' := (fun k_ => ((fun k_ => (P0_ k_ ∨ w.heap.size ≤ k_))) k_ ∧ some k_ ≠ (.slice (some ad911) x17_4.length co63 : Value).ownBlock)) (Kd.R_apart' (HO916.out) (Kd.N_typed HO_17.out) (by decide)) (fun k_ hk => ⟨(.inr (hk.1.1)), hk.2⟩))))); (case aB => exact (by repeat (first | (with_reducible first | exact HB.out | apply below_alloc | apply pw_below_drewN | apply below_drew1) | exact HB.out))); (case aF => exact (fun k_ hk => (.inr (Nat.le_trans (below_size (by repeat (first | (with_reducible first | exact HB.out | apply below_alloc | apply pw_below_drewN | apply below_drew1) | exact HB.out))) hk)))); (case aO => exact (by (with_reducible repeat (first | apply Kd.N_alloc | apply Kd.N_drewN | apply Kd.N_drew)); exact Kd.N_mono HO_17.out (fun _ hk => hk.1))); (case aS => exact (below_size (by repeat (first | (with_reducible first | exact HB.out | apply below_alloc | apply pw_below_drewN | apply below_drew1) | exact HB.out)))); (case aL => have := LMc62.out; omega); intro v918 w65 ho hb hg hat; rw [← Ny917.out] at ho; have n0_ := Aside0.mk (Kd.V_afterv (ok := (fun k_ => (P0_ k_ ∨ w.heap.size ≤ k_) ∧ some k_ ≠ (.slice Ao66 t912.length co66 : Value).ownBlock)) (by (with_reducible repeat (first | apply Kd.V_alloc | apply Kd.V_drewN | apply Kd.V_drew)); exact Kd.V_mono HO_0.out (fun _ hk => ⟨⟨hk.1.1, hk.2⟩, hk.1.2⟩)) hg hat); have n1_ := Aside0.mk (Kd.V_afterv (ok := (fun k_ => (P0_ k_ ∨ w.heap.size ≤ k_) ∧ some k_ ≠ (.slice Ao66 t912.length co66 : Value).ownBlock)) (by (with_reducible repeat (first | apply Kd.V_alloc | apply Kd.V_drewN | apply Kd.V_drew)); exact Kd.V_mono HL911_0.out (fun _ hk => ⟨⟨hk.1.1, hk.2⟩, hk.1.2⟩)) hg hat); have n2_ := Aside0.mk (hb); have n3_ := Aside0.mk (ho); clear HO_0; clear HL911_0; clear HB; clear HO_17; clear HO916; have HO_0 := n0_; have HL911_0 := n1_; have HB := n2_; have HO919 := n3_; clear n0_ n1_ n2_ n3_; clear ho hb hg hat)); try go_wp2_with (first | (go_at_call 27; (with_reducible refine (plait_Product.calls k4 _ _ (rd_L3 x17_4 (ji57)) _ _ l0 t912 t913 t914 _ ?side1 ?side2 ?side3 ?side4 A60.out).mono ?_); (case side1 => repeat (first | exact (by repeat (first | (with_reducible exact HR911_0.out) | (with_reducible refine Kd.C_alloc ?_ _) | (with_reducible refine Kd.C_drewN ?_ _) | (with_reducible refine Kd.C_drew ?_) | exact HR911_0.out)) | (with_reducible refine Kd.C_alloc ?_ _) | (with_reducible refine Kd.C_drewN ?_ _) | (with_reducible refine Kd.C_drew ?_))); (case side2 => exact HC911_0.out); (case side3 => repeat (first | exact (Kd.V_reads' HO_0.out).2.2 | (with_reducible refine Kd.C_alloc ?_ _) | (with_reducible refine Kd.C_drewN ?_ _) | (with_reducible refine Kd.C_drew ?_))); (case side4 => exact (Kd.V_reads' HO_0.out).2.1); rintro e w64 ⟨v915, rfl, ho0, hb⟩; have n0_ := Aside0.mk (Kd.V_elder' (by (with_reducible repeat (first | apply Kd.V_alloc | apply Kd.V_drewN | apply Kd.V_drew)); exact HO_0.out) (Kd.R_base ho0) hb); have n1_ := Aside0.mk (Kd.N_elder' (by (with_reducible repeat (first | apply Kd.N_alloc | apply Kd.N_drewN | apply Kd.N_drew)); exact HO_17.out) (Kd.R_base ho0) hb); have n2_ := Aside0.mk (Kd.V_elder' (by (with_reducible repeat (first | apply Kd.V_alloc | apply Kd.V_drewN | apply Kd.V_drew)); exact HL911_0.out) (Kd.R_base ho0) hb); have n3_ := Aside0.mk (Kd.R_lower (Kd.R_newM (M := fun k_ => (w.heap.size ≤ k_)) ho0 (below_size (by repeat (first | (with_reducible first | exact HB.out | apply below_alloc | apply pw_below_drewN | apply below_drew1) | exact HB.out))) (fun k_ h_ => h_)) (below_size (by repeat (first | (with_reducible first | exact HB.out | apply below_alloc | apply pw_below_drewN | apply below_drew1) | exact HB.out)))); have n4_ := Aside0.mk (Kd.C_below (by repeat (first | (with_reducible exact HR911_0.out) | (with_reducible refine Kd.C_alloc ?_ _) | (with_reducible refine Kd.C_drewN ?_ _) | (with_reducible refine Kd.C_drew ?_) | exact HR911_0.out)) hb); have n5_ := Aside0.mk (below_step (by repeat (first | (with_reducible first | exact HB.out | apply below_alloc | apply pw_below_drewN | apply below_drew1) | exact HB.out)) hb); clear HO_0; clear HO_17; clear HL911_0; clear HR911_0; clear HB; have HO_0 := n0_; have HO_17 := n1_; have HL911_0 := n2_; have HO916 := n3_; have HR911_0 := n4_; have HB := n5_; clear n0_ n1_ n2_ n3_ n4_ n5_; (try clear hb); (try clear hb2); (try clear hk); (try clear hi); (try clear ho0); obtain ⟨Ao66, co66, eo66⟩ := Kd.R_slice HO916.out; subst eo66) | ((with_reducible refine gate_builtin (b := .append) (xs := #[.tmp 143, .tmp 145]) rfl ?_); (try (refine gate_guard (by rfl) ?_; dsimp only)); at_builtin; refine Kd.N_append (Kd.slice 3 (Kd.int .i64)) (w0 := w) w.heap.size rfl (.tmp 143) (.tmp 145) 62 22 (.slice none 0 0) 24 rfl Try.underlying62 info22 rfl (by decide) (by omega) (.slice (some ad911) x17_4.length co63) x17_4 t912 [.slice Ao66 t912.length co66] (fun k_ => (P0_ k_ ∨ w.heap.size ≤ k_)) (fun k_ => ((fun k_ => (P0_ k_ ∨ w.heap.size ≤ k_))) k_ ∧ some k_ ≠ (.slice (some ad911) x17_4.length co63 : Value).ownBlock) rfl rfl ?aP (fun _ hk => hk) ?aF ?aO ?aB ?aS ?aL ?_; (case aP => exact (Kd.FK_slice_mk (Kd.R_reads' (Kd.R_mono (ok' := (fun k_ => ((fun k_ => (P0_ k_ ∨ w.heap.size ≤ k_))) k_ ∧ some k_ ≠ (.slice (some ad911) x17_4.length co63 : Value).ownBlock)) (Kd.R_apart' (HO916.out) (Kd.N_typed HO_17.out) (by decide)) (fun k_ hk => ⟨(.inr (hk.1.1)), hk.2⟩))).2.1 (Kd.R_F (Kd.R_mono (ok' := (fun k_ => ((fun k_ => (P0_ k_ ∨ w.heap.size ≤ k_))) k_ ∧ some k_ ≠ (.slice (some ad911) x17_4.length co63 : Value).ownBlock)) (Kd.R_apart' (HO916.out) (Kd.N_typed HO_17.out) (by decide)) (fun k_ hk => ⟨(.inr (hk.1.1)), hk.2⟩))))); (case aB => exact (by repeat (first | (with_reducible first | exact HB.out | apply below_alloc | apply pw_below_drewN | apply below_drew1) | exact HB.out))); (case aF => exact (fun k_ hk => (.inr (Nat.le_trans (below_size (by repeat (first | (with_reducible first | exact HB.out | apply below_alloc | apply pw_below_drewN | apply below_drew1) | exact HB.out))) hk)))); (case aO => exact (by (with_reducible repeat (first | apply Kd.N_alloc | apply Kd.N_drewN | apply Kd.N_drew)); exact Kd.N_mono HO_17.out (fun _ hk => hk.1))); (case aS => exact (below_size (by repeat (first | (with_reducible first | exact HB.out | apply below_alloc | apply pw_below_drewN | apply below_drew1) | exact HB.out)))); (case aL => have := LMc62.out; omega); intro v918 w65 ho hb hg hat; rw [← Ny917.out] at ho; have n0_ := Aside0.mk (Kd.V_afterv (ok := (fun k_ => (P0_ k_ ∨ w.heap.size ≤ k_) ∧ some k_ ≠ (.slice Ao66 t912.length co66 : Value).ownBlock)) (by (with_reducible repeat (first | apply Kd.V_alloc | apply Kd.V_drewN | apply Kd.V_drew)); exact Kd.V_mono HO_0.out (fun _ hk => ⟨⟨hk.1.1, hk.2⟩, hk.1.2⟩)) hg hat); have n1_ := Aside0.mk (Kd.V_afterv (ok := (fun k_ => (P0_ k_ ∨ w.heap.size ≤ k_) ∧ some k_ ≠ (.slice Ao66 t912.length co66 : Value).ownBlock)) (by (with_reducible repeat (first | apply Kd.V_alloc | apply Kd.V_drewN | apply Kd.V_drew)); exact Kd.V_mono HL911_0.out (fun _ hk => ⟨⟨hk.1.1, hk.2⟩, hk.1.2⟩)) hg hat); have n2_ := Aside0.mk (hb); have n3_ := Aside0.mk (ho); clear HO_0; clear HL911_0; clear HB; clear HO_17; clear HO916; have HO_0 := n0_; have HL911_0 := n1_; have HB := n2_; have HO919 := n3_; clear n0_ n1_ n2_ n3_; clear ho hb hg hat)))
                 go_roundg k4
                 case measure => have := HJ2.out; have := HJ8.out; have := HJ36.out; have := HK4.out; omega
                 case rel => exact ⟨(y917), H', ⟨by have := HJ2.out; have := HJ8.out; have := HJ36.out; have := HK4.out; omega⟩, ⟨by (with_reducible repeat (first | apply Kd.V_alloc | apply Kd.V_drewN | apply Kd.V_drew)); exact Kd.V_mono HO_0.out (fun _ hk => ⟨hk.1.1, hk.2⟩)⟩, ⟨by (with_reducible repeat (first | apply Kd.N_alloc | apply Kd.N_drewN | apply Kd.N_drew)); exact HO919.out⟩, ⟨by repeat (first | (with_reducible first | exact HB.out | apply below_alloc | apply pw_below_drewN | apply below_drew1) | exact HB.out)⟩⟩
                ·rw [if_neg c62] at H
                 exact absurd H (by simp)
               ·rw [if_neg c61] at H
                have c61b0 : (t914 == 0) = false := beq_eq_false_iff_ne.mpr c61
                have c61b1 : (t914 != 0) = true := bne_iff_ne.mpr c61
                obtain rfl := Option.some.inj H
                obtain ⟨Ao67, co67, eo67⟩ := Kd.N_slice HO_17.out
                subst eo67
                have p911 : 0 ≤ ((ji57) : Int) := of_decide_eq_true (by first | (with_reducible assumption) | assumption)
                have q911 : (ji57) < (x17_4.length : Int) := of_decide_eq_true (by first | (with_reducible assumption) | assumption)
                obtain ⟨ad911, A911_0, c911_0, e911, hx911_0, hl911_0, hi911_0⟩ := at_L3 (Kd.N_reads' HO_17.out).2.2 (ji57) p911 q911
                cases e911
                obtain ⟨ce911, hce911, hMe911, hcc911⟩ := Kd.N_get HO_17.out [] (ji57) p911 (by first | exact q911 | exact of_decide_eq_true (by first | (with_reducible assumption) | assumption) | (have e_ := (Kd.N_reads' HO_17.out).1; omega))
                obtain ⟨ua911_0, uc911_0, rfl, ul911_0, ge911_0⟩ := Kd.FK_slice_open hMe911
                have hv911_0 := hcc911 0 _ rfl
                rw [Nat.add_zero, show ((Kd.slice 3 (Kd.int .i64))).sz = 1 from rfl, Nat.mul_one] at hv911_0
                replace hv911_0 := Option.some.inj (hv911_0.symm.trans hx911_0)
                injection hv911_0 with hva_ hvn_ hvc_
                rw [hva_] at ge911_0
                rw [hvc_] at ul911_0
                have HL911_0 := Aside0.mk (show Kd.V (Kd.int .i64) 3 _ w.heap.size _ _ (rd_L3 x17_4 (ji57)) from Kd.V_mk ul911_0 ge911_0)
                clear hva_ hvn_ hvc_ ge911_0 ul911_0
                clear hcc911 hce911
                have HR911_0 := Aside0.mk hi911_0
                have HC911_0 := Aside0.mk hl911_0
                clear hi911_0 hl911_0
                replace p911 := eq_true p911
                replace q911 := eq_true q911
                go_wp2_with (first | (go_at_call 27; (with_reducible refine (plait_Product.calls k4 _ _ (rd_L3 x17_4 (ji57)) _ _ l0 t912 t913 t914 _ ?side1 ?side2 ?side3 ?side4 A60.out).mono ?_); (case side1 => repeat (first | exact (by repeat (first | (with_reducible exact HR911_0.out) | (with_reducible refine Kd.C_alloc ?_ _) | (with_reducible refine Kd.C_drewN ?_ _) | (with_reducible refine Kd.C_drew ?_) | exact HR911_0.out)) | (with_reducible refine Kd.C_alloc ?_ _) | (with_reducible refine Kd.C_drewN ?_ _) | (with_reducible refine Kd.C_drew ?_))); (case side2 => exact HC911_0.out); (case side3 => repeat (first | exact (Kd.V_reads' HO_0.out).2.2 | (with_reducible refine Kd.C_alloc ?_ _) | (with_reducible refine Kd.C_drewN ?_ _) | (with_reducible refine Kd.C_drew ?_))); (case side4 => exact (Kd.V_reads' HO_0.out).2.1); rintro e w68 ⟨v915, rfl, ho0, hb⟩; have n0_ := Aside0.mk (Kd.V_elder' (by (with_reducible repeat (first | apply Kd.V_alloc | apply Kd.V_drewN | apply Kd.V_drew)); exact HO_0.out) (Kd.R_base ho0) hb); have n1_ := Aside0.mk (Kd.N_elder' (by (with_reducible repeat (first | apply Kd.N_alloc | apply Kd.N_drewN | apply Kd.N_drew)); exact HO_17.out) (Kd.R_base ho0) hb); have n2_ := Aside0.mk (Kd.V_elder' (by (with_reducible repeat (first | apply Kd.V_alloc | apply Kd.V_drewN | apply Kd.V_drew)); exact HL911_0.out) (Kd.R_base ho0) hb); have n3_ := Aside0.mk (Kd.R_lower (Kd.R_newM (M := fun k_ => (w.heap.size ≤ k_)) ho0 (below_size (by repeat (first | (with_reducible first | exact HB.out | apply below_alloc | apply pw_below_drewN | apply below_drew1) | exact HB.out))) (fun k_ h_ => h_)) (below_size (by repeat (first | (with_reducible first | exact HB.out | apply below_alloc | apply pw_below_drewN | apply below_drew1) | exact HB.out)))); have n4_ := Aside0.mk (Kd.C_below (by repeat (first | (with_reducible exact HR911_0.out) | (with_reducible refine Kd.C_alloc ?_ _) | (with_reducible refine Kd.C_drewN ?_ _) | (with_reducible refine Kd.C_drew ?_) | exact HR911_0.out)) hb); have n5_ := Aside0.mk (below_step (by repeat (first | (with_reducible first | exact HB.out | apply below_alloc | apply pw_below_drewN | apply below_drew1) | exact HB.out)) hb); clear HO_0; clear HO_17; clear HL911_0; clear HR911_0; clear HB; have HO_0 := n0_; have HO_17 := n1_; have HL911_0 := n2_; have HO916 := n3_; have HR911_0 := n4_; have HB := n5_; clear n0_ n1_ n2_ n3_ n4_ n5_; (try clear hb); (try clear hb2); (try clear hk); (try clear hi); (try clear ho0)))
                repeat (go_quiet (first | (go_at_call 27; (with_reducible refine (plait_Product.calls k4 _ _ (rd_L3 x17_4 (ji57)) _ _ l0 t912 t913 t914 _ ?side1 ?side2 ?side3 ?side4 A60.out).mono ?_); (case side1 => repeat (first | exact (by repeat (first | (with_reducible exact HR911_0.out) | (with_reducible refine Kd.C_alloc ?_ _) | (with_reducible refine Kd.C_drewN ?_ _) | (with_reducible refine Kd.C_drew ?_) | exact HR911_0.out)) | (with_reducible refine Kd.C_alloc ?_ _) | (with_reducible refine Kd.C_drewN ?_ _) | (with_reducible refine Kd.C_drew ?_))); (case side2 => exact HC911_0.out); (case side3 => repeat (first | exact (Kd.V_reads' HO_0.out).2.2 | (with_reducible refine Kd.C_alloc ?_ _) | (with_reducible refine Kd.C_drewN ?_ _) | (with_reducible refine Kd.C_drew ?_))); (case side4 => exact (Kd.V_reads' HO_0.out).2.1); rintro e w68 ⟨v915, rfl, ho0, hb⟩; have n0_ := Aside0.mk (Kd.V_elder' (by (with_reducible repeat (first | apply Kd.V_alloc | apply Kd.V_drewN | apply Kd.V_drew)); exact HO_0.out) (Kd.R_base ho0) hb); have n1_ := Aside0.mk (Kd.N_elder' (by (with_reducible repeat (first | apply Kd.N_alloc | apply Kd.N_drewN | apply Kd.N_drew)); exact HO_17.out) (Kd.R_base ho0) hb); have n2_ := Aside0.mk (Kd.V_elder' (by (with_reducible repeat (first | apply Kd.V_alloc | apply Kd.V_drewN | apply Kd.V_drew)); exact HL911_0.out) (Kd.R_base ho0) hb); have n3_ := Aside0.mk (Kd.R_lower (Kd.R_newM (M := fun k_ => (w.heap.size ≤ k_)) ho0 (below_size (by repeat (first | (with_reducible first | exact HB.out | apply below_alloc | apply pw_below_drewN | apply below_drew1) | exact HB.out))) (fun k_ h_ => h_)) (below_size (by repeat (first | (with_reducible first | exact HB.out | apply below_alloc | apply pw_below_drewN | apply below_drew1) | exact HB.out)))); have n4_ := Aside0.mk (Kd.C_below (by repeat (first | (with_reducible exact HR911_0.out) | (with_reducible refine Kd.C_alloc ?_ _) | (with_reducible refine Kd.C_drewN ?_ _) | (with_reducible refine Kd.C_drew ?_) | exact HR911_0.out)) hb); have n5_ := Aside0.mk (below_step (by repeat (first | (with_reducible first | exact HB.out | apply below_alloc | apply pw_below_drewN | apply below_drew1) | exact HB.out)) hb); clear HO_0; clear HO_17; clear HL911_0; clear HR911_0; clear HB; have HO_0 := n0_; have HO_17 := n1_; have HL911_0 := n2_; have HO916 := n3_; have HR911_0 := n4_; have HB := n5_; clear n0_ n1_ n2_ n3_ n4_ n5_; (try clear hb); (try clear hb2); (try clear hk); (try clear hi); (try clear ho0))); try go_wp2_with (first | (go_at_call 27; (with_reducible refine (plait_Product.calls k4 _ _ (rd_L3 x17_4 (ji57)) _ _ l0 t912 t913 t914 _ ?side1 ?side2 ?side3 ?side4 A60.out).mono ?_); (case side1 => repeat (first | exact (by repeat (first | (with_reducible exact HR911_0.out) | (with_reducible refine Kd.C_alloc ?_ _) | (with_reducible refine Kd.C_drewN ?_ _) | (with_reducible refine Kd.C_drew ?_) | exact HR911_0.out)) | (with_reducible refine Kd.C_alloc ?_ _) | (with_reducible refine Kd.C_drewN ?_ _) | (with_reducible refine Kd.C_drew ?_))); (case side2 => exact HC911_0.out); (case side3 => repeat (first | exact (Kd.V_reads' HO_0.out).2.2 | (with_reducible refine Kd.C_alloc ?_ _) | (with_reducible refine Kd.C_drewN ?_ _) | (with_reducible refine Kd.C_drew ?_))); (case side4 => exact (Kd.V_reads' HO_0.out).2.1); rintro e w68 ⟨v915, rfl, ho0, hb⟩; have n0_ := Aside0.mk (Kd.V_elder' (by (with_reducible repeat (first | apply Kd.V_alloc | apply Kd.V_drewN | apply Kd.V_drew)); exact HO_0.out) (Kd.R_base ho0) hb); have n1_ := Aside0.mk (Kd.N_elder' (by (with_reducible repeat (first | apply Kd.N_alloc | apply Kd.N_drewN | apply Kd.N_drew)); exact HO_17.out) (Kd.R_base ho0) hb); have n2_ := Aside0.mk (Kd.V_elder' (by (with_reducible repeat (first | apply Kd.V_alloc | apply Kd.V_drewN | apply Kd.V_drew)); exact HL911_0.out) (Kd.R_base ho0) hb); have n3_ := Aside0.mk (Kd.R_lower (Kd.R_newM (M := fun k_ => (w.heap.size ≤ k_)) ho0 (below_size (by repeat (first | (with_reducible first | exact HB.out | apply below_alloc | apply pw_below_drewN | apply below_drew1) | exact HB.out))) (fun k_ h_ => h_)) (below_size (by repeat (first | (with_reducible first | exact HB.out | apply below_alloc | apply pw_below_drewN | apply below_drew1) | exact HB.out)))); have n4_ := Aside0.mk (Kd.C_below (by repeat (first | (with_reducible exact HR911_0.out) | (with_reducible refine Kd.C_alloc ?_ _) | (with_reducible refine Kd.C_drewN ?_ _) | (with_reducible refine Kd.C_drew ?_) | exact HR911_0.out)) hb); have n5_ := Aside0.mk (below_step (by repeat (first | (with_reducible first | exact HB.out | apply below_alloc | apply pw_below_drewN | apply below_drew1) | exact HB.out)) hb); clear HO_0; clear HO_17; clear HL911_0; clear HR911_0; clear HB; have HO_0 := n0_; have HO_17 := n1_; have HL911_0 := n2_; have HO916 := n3_; have HR911_0 := n4_; have HB := n5_; clear n0_ n1_ n2_ n3_ n4_ n5_; (try clear hb); (try clear hb2); (try clear hk); (try clear hi); (try clear ho0))))
                go_ret
                exact ⟨by first | rfl | (simp [errW_none, errW_some] <;> rfl) | (simp only [← hji57]; first | rfl | (simp [errW_none, errW_some] <;> rfl)) | (simp [*, errW_none, errW_some] <;> rfl), by repeat (first | (with_reducible first | exact HB.out | apply below_alloc | apply pw_below_drewN | apply below_drew1) | exact HB.out)⟩
              ·rw [if_neg c59] at H
               exact absurd H (by simp)
             ·rw [if_neg c58] at H
              exact absurd H (by simp)
            ·rw [if_neg c56] at H
             have c56b0 : decide ((x17_4.length : Int) < t904) = false := decide_eq_false c56
             clear c56
             have H' := Aside0.mk H
             clear H
             obtain ⟨Ao69, co69, eo69⟩ := Kd.N_slice HO_17.out
             subst eo69
             go_wp2
             repeat (go_quiet (fail); try go_wp2)
             go_loopg [21] k4 (fun kq v21 w' => ∃ (x21_5 : Int), v21 = .int .i64 x21_5 ∧ Aside0 (pomadelaw07_PlaitBent.l1 kq t903 t904 x17_4 x21_5 = some r) ∧ Aside0 (kq ≤ k4) ∧ Aside0 (Kd.N (Kd.slice 3 (Kd.int .i64)) 22 w' w.heap.size (fun k_ => (P0_ k_ ∨ w.heap.size ≤ k_)) (.slice Ao69 x17_4.length co69) x17_4) ∧ Aside0 (Below w.heap.size w w'))
             case atStart => exact ⟨(0), (by first | rfl | (simp; done) | (simp [*]; done)), H', ⟨Nat.le_refl _⟩, ⟨by (with_reducible repeat (first | apply Kd.N_alloc | apply Kd.N_drewN | apply Kd.N_drew)); exact HO_17.out⟩, ⟨by repeat (first | (with_reducible first | exact HB.out | apply below_alloc | apply pw_below_drewN | apply below_drew1) | exact HB.out)⟩⟩
             case round =>
              clear H'
              try clear c1
              try clear p2
              try clear c3
              try clear c4
              try clear c4b0
              try clear c4b1
              try clear c5
              try clear c6
              try clear p6
              try clear c9
              try clear p9
              try clear q9
              try clear hx9
              try clear c11
              try clear c11b0
              try clear c11b1
              try clear c14
              try clear c14b0
              try clear c14b1
              try clear c15
              try clear c15b0
              try clear c15b1
              try clear c16
              try clear c16b0
              try clear c16b1
              try clear c17
              try clear c18
              try clear c34
              try clear c34b0
              try clear c34b1
              try clear c42
              try clear c42b0
              try clear c42b1
              try clear c43
              try clear c43b0
              try clear c43b1
              try clear c44
              try clear c44b0
              try clear c44b1
              try clear c46
              try clear c47
              try clear c47b0
              try clear c49
              try clear c49b0
              try clear c53
              try clear c56
              try clear c56b0
              try clear c58
              try clear c58b0
              try clear c59
              try clear c59b0
              try clear c61
              try clear c61b0
              try clear c61b1
              try clear c62
              try clear p64
              try clear hx911_0
              try clear p2
              try clear p6
              try clear p911
              try clear q911
              obtain ⟨x21_5, rfl, HA, HK5, HO_17, HB⟩ := hrel
              cases gk with
              | zero => exact absurd HA.out (by simp [pomadelaw07_PlaitBent.l1])
              | succ k5 =>
               have H := HA.out
               clear HA
               simp only [pomadelaw07_PlaitBent.l1] at H
               by_cases c70 : x21_5 < t904
               ·rw [if_pos c70] at H
                have c70b0 : decide (x21_5 < t904) = true := decide_eq_true c70
                clear c70
                have H' := Aside0.mk H
                clear H
                go_wp2
                repeat (go_quiet (fail); try go_wp2)
                go_loopg [22] k5 (fun kq v22 w' => ∃ (x22_6 : Int), v22 = .int .i64 x22_6 ∧ Aside0 (pomadelaw07_PlaitBent.l2 kq t903 t904 x17_4 x21_5 x22_6 = some r) ∧ Aside0 (kq ≤ k5) ∧ Aside0 (Kd.N (Kd.slice 3 (Kd.int .i64)) 22 w' w.heap.size (fun k_ => (P0_ k_ ∨ w.heap.size ≤ k_)) (.slice Ao69 x17_4.length co69) x17_4) ∧ Aside0 (Below w.heap.size w w'))
                case atStart => exact ⟨(0), (by first | rfl | (simp; done) | (simp [*]; done)), H', ⟨Nat.le_refl _⟩, ⟨by (with_reducible repeat (first | apply Kd.N_alloc | apply Kd.N_drewN | apply Kd.N_drew)); exact HO_17.out⟩, ⟨by repeat (first | (with_reducible first | exact HB.out | apply below_alloc | apply pw_below_drewN | apply below_drew1) | exact HB.out)⟩⟩
                case round =>
                 clear H'
                 try clear c1
                 try clear p2
                 try clear c3
                 try clear c4
                 try clear c4b0
                 try clear c4b1
                 try clear c5
                 try clear c6
                 try clear p6
                 try clear c7
                 try clear c9
                 try clear p9
                 try clear q9
                 try clear hx9
                 try clear c11
                 try clear c11b0
                 try clear c11b1
                 try clear c14
                 try clear c14b0
                 try clear c14b1
                 try clear c15
                 try clear c15b0
                 try clear c15b1
                 try clear c16
                 try clear c16b0
                 try clear c16b1
                 try clear c17
                 try clear c18
                 try clear c34
                 try clear c34b0
                 try clear c34b1
                 try clear c42
                 try clear c42b0
                 try clear c42b1
                 try clear c43
                 try clear c43b0
                 try clear c43b1
                 try clear c44
                 try clear c44b0
                 try clear c44b1
                 try clear c46
                 try clear c47
                 try clear c47b0
                 try clear c49
                 try clear c49b0
                 try clear c53
                 try clear c56
                 try clear c56b0
                 try clear c58
                 try clear c58b0
                 try clear c59
                 try clear c59b0
                 try clear c61
                 try clear c61b0
                 try clear c61b1
                 try clear c62
                 try clear p64
                 try clear c70
                 try clear c70b0
                 try clear hx911_0
                 try clear p2
                 try clear p6
                 try clear p64
                 try clear p9
                 try clear p911
                 try clear q9
                 try clear q911
                 obtain ⟨x22_6, rfl, HA, HK6, HO_17, HB⟩ := hrel
                 cases gk with
                 | zero => exact absurd HA.out (by simp [pomadelaw07_PlaitBent.l2])
                 | succ k6 =>
                  have H := HA.out
                  clear HA
                  simp only [pomadelaw07_PlaitBent.l2] at H
                  by_cases c71 : x22_6 < x21_5
                  ·rw [if_pos c71] at H
                   have c71b0 : decide (x22_6 < x21_5) = true := decide_eq_true c71
                   clear c71
                   by_cases c72 : 0 ≤ x21_5
                   ·rw [if_pos c72] at H
                    have c72b0 : decide (0 ≤ x21_5) = true := decide_eq_true c72
                    clear c72
                    by_cases c73 : x21_5 < (x17_4.length : Int)
                    ·rw [if_pos c73] at H
                     have c73b0 : decide (x21_5 < (x17_4.length : Int)) = true := decide_eq_true c73
                     clear c73
                     by_cases c74 : 0 ≤ x22_6
                     ·rw [if_pos c74] at H
                      have c74b0 : decide (0 ≤ x22_6) = true := decide_eq_true c74
                      clear c74
                      by_cases c75 : x22_6 < (x17_4.length : Int)
                      ·rw [if_pos c75] at H
                       have c75b0 : decide (x22_6 < (x17_4.length : Int)) = true := decide_eq_true c75
                       clear c75
                       replace H := Option.bind_eq_some_iff.mp H
                       obtain ⟨t923, A760, H⟩ := H
                       replace H : (if x21_5 = (wrap64 (t904 - 1)) then (if (t923 != (x22_6 == (wrap64 (t903 - 1)))) = true then (some false) else (pomadelaw07_PlaitBent.l2 k6 t903 t904 x17_4 x21_5 (wrap64 (x22_6 + 1)))) else (if (t923 != false) = true then (some false) else (pomadelaw07_PlaitBent.l2 k6 t903 t904 x17_4 x21_5 (wrap64 (x22_6 + 1))))) = some r := H
                       have A76 := Aside0.mk A760
                       clear A760
                       by_cases c77 : x21_5 = (wrap64 (t904 - 1))
                       ·rw [if_pos c77] at H
                        have c77b0 : (x21_5 == (wrap64 (t904 - 1))) = true := beq_iff_eq.mpr c77
                        have c77b1 : (x21_5 != (wrap64 (t904 - 1))) = false := bne_eq_false_iff_eq.mpr c77
                        clear c77
                        by_cases c78 : (t923 != (x22_6 == (wrap64 (t903 - 1)))) = true
                        ·rw [if_pos c78] at H
                         have c78b0 : (t923 != (x22_6 == (wrap64 (t903 - 1)))) = true := c78
                         (try (have c78b1 : decide (t923 = (x22_6 == (wrap64 (t903 - 1)))) = false := by simpa using c78))
                         (try (have c78b2 : (t923 == (x22_6 == (wrap64 (t903 - 1)))) = false := by simpa using c78))
                         (try (have c78b3 : ¬ (t923 = (x22_6 == (wrap64 (t903 - 1)))) := by simpa using c78))
                         clear c78
                         obtain rfl := Option.some.inj H
                         have p921 : 0 ≤ (x21_5 : Int) := of_decide_eq_true (by first | (with_reducible assumption) | assumption)
                         have q921 : x21_5 < (x17_4.length : Int) := of_decide_eq_true (by first | (with_reducible assumption) | assumption)
                         obtain ⟨ad921, A921_0, c921_0, e921, hx921_0, hl921_0, hi921_0⟩ := at_L3 (Kd.N_reads' HO_17.out).2.2 x21_5 p921 q921
                         cases e921
                         obtain ⟨ce921, hce921, hMe921, hcc921⟩ := Kd.N_get HO_17.out [] x21_5 p921 (by first | exact q921 | exact of_decide_eq_true (by first | (with_reducible assumption) | assumption) | (have e_ := (Kd.N_reads' HO_17.out).1; omega))
                         obtain ⟨ua921_0, uc921_0, rfl, ul921_0, ge921_0⟩ := Kd.FK_slice_open hMe921
                         have hv921_0 := hcc921 0 _ rfl
                         rw [Nat.add_zero, show ((Kd.slice 3 (Kd.int .i64))).sz = 1 from rfl, Nat.mul_one] at hv921_0
                         replace hv921_0 := Option.some.inj (hv921_0.symm.trans hx921_0)
                         injection hv921_0 with hva_ hvn_ hvc_
                         rw [hva_] at ge921_0
                         rw [hvc_] at ul921_0
                         have HL921_0 := Aside0.mk (show Kd.V (Kd.int .i64) 3 _ w.heap.size _ _ (rd_L3 x17_4 x21_5) from Kd.V_mk ul921_0 ge921_0)
                         clear hva_ hvn_ hvc_ ge921_0 ul921_0
                         clear hcc921 hce921
                         have HR921_0 := Aside0.mk hi921_0
                         have HC921_0 := Aside0.mk hl921_0
                         clear hi921_0 hl921_0
                         replace p921 := eq_true p921
                         replace q921 := eq_true q921
                         have p922 : 0 ≤ (x22_6 : Int) := of_decide_eq_true (by first | (with_reducible assumption) | assumption)
                         have q922 : x22_6 < (x17_4.length : Int) := of_decide_eq_true (by first | (with_reducible assumption) | assumption)
                         obtain ⟨ad922, A922_0, c922_0, e922, hx922_0, hl922_0, hi922_0⟩ := at_L3 (Kd.N_reads' HO_17.out).2.2 x22_6 p922 q922
                         obtain rfl : ad921 = ad922 := (by injection e922)
                         obtain ⟨ce922, hce922, hMe922, hcc922⟩ := Kd.N_get HO_17.out [] x22_6 p922 (by first | exact q922 | exact of_decide_eq_true (by first | (with_reducible assumption) | assumption) | (have e_ := (Kd.N_reads' HO_17.out).1; omega))
                         obtain ⟨ua922_0, uc922_0, rfl, ul922_0, ge922_0⟩ := Kd.FK_slice_open hMe922
                         have hv922_0 := hcc922 0 _ rfl
                         rw [Nat.add_zero, show ((Kd.slice 3 (Kd.int .i64))).sz = 1 from rfl, Nat.mul_one] at hv922_0
                         replace hv922_0 := Option.some.inj (hv922_0.symm.trans hx922_0)
                         injection hv922_0 with hva_ hvn_ hvc_
                         rw [hva_] at ge922_0
                         rw [hvc_] at ul922_0
                         have HL922_0 := Aside0.mk (show Kd.V (Kd.int .i64) 3 _ w.heap.size _ _ (rd_L3 x17_4 x22_6) from Kd.V_mk ul922_0 ge922_0)
                         clear hva_ hvn_ hvc_ ge922_0 ul922_0
                         clear hcc922 hce922
                         have HR922_0 := Aside0.mk hi922_0
                         have HC922_0 := Aside0.mk hl922_0
                         clear hi922_0 hl922_0
                         replace p922 := eq_true p922
                         replace q922 := eq_true q922
                         go_wp2_with (first | (go_at_call 23; (with_reducible refine (pomadelaw07_same.calls k6 _ _ (rd_L3 x17_4 x21_5) _ _ (rd_L3 x17_4 x22_6) t923 _ ?side1 ?side2 ?side3 ?side4 A76.out).mono ?_); (case side1 => repeat (first | exact (by repeat (first | (with_reducible exact HR921_0.out) | (with_reducible refine Kd.C_alloc ?_ _) | (with_reducible refine Kd.C_drewN ?_ _) | (with_reducible refine Kd.C_drew ?_) | exact HR921_0.out)) | (with_reducible refine Kd.C_alloc ?_ _) | (with_reducible refine Kd.C_drewN ?_ _) | (with_reducible refine Kd.C_drew ?_))); (case side2 => exact HC921_0.out); (case side3 => repeat (first | exact (by repeat (first | (with_reducible exact HR922_0.out) | (with_reducible refine Kd.C_alloc ?_ _) | (with_reducible refine Kd.C_drewN ?_ _) | (with_reducible refine Kd.C_drew ?_) | exact HR922_0.out)) | (with_reducible refine Kd.C_alloc ?_ _) | (with_reducible refine Kd.C_drewN ?_ _) | (with_reducible refine Kd.C_drew ?_))); (case side4 => exact HC922_0.out); rintro e w' ⟨rfl, ⟨nd, rfl⟩⟩; (try first | exact ⟨rfl, _, World.drewN_drewN _ _ _⟩ | exact ⟨rfl, _, Eq.trans (World.drewN_drewN _ _ _) (congrArg (World.drewN _) (Nat.add_assoc _ _ _))⟩)))
                         repeat (go_quiet (first | (go_at_call 23; (with_reducible refine (pomadelaw07_same.calls k6 _ _ (rd_L3 x17_4 x21_5) _ _ (rd_L3 x17_4 x22_6) t923 _ ?side1 ?side2 ?side3 ?side4 A76.out).mono ?_); (case side1 => repeat (first | exact (by repeat (first | (with_reducible exact HR921_0.out) | (with_reducible refine Kd.C_alloc ?_ _) | (with_reducible refine Kd.C_drewN ?_ _) | (with_reducible refine Kd.C_drew ?_) | exact HR921_0.out)) | (with_reducible refine Kd.C_alloc ?_ _) | (with_reducible refine Kd.C_drewN ?_ _) | (with_reducible refine Kd.C_drew ?_))); (case side2 => exact HC921_0.out); (case side3 => repeat (first | exact (by repeat (first | (with_reducible exact HR922_0.out) | (with_reducible refine Kd.C_alloc ?_ _) | (with_reducible refine Kd.C_drewN ?_ _) | (with_reducible refine Kd.C_drew ?_) | exact HR922_0.out)) | (with_reducible refine Kd.C_alloc ?_ _) | (with_reducible refine Kd.C_drewN ?_ _) | (with_reducible refine Kd.C_drew ?_))); (case side4 => exact HC922_0.out); rintro e w' ⟨rfl, ⟨nd, rfl⟩⟩; (try first | exact ⟨rfl, _, World.drewN_drewN _ _ _⟩ | exact ⟨rfl, _, Eq.trans (World.drewN_drewN _ _ _) (congrArg (World.drewN _) (Nat.add_assoc _ _ _))⟩))); try go_wp2_with (first | (go_at_call 23; (with_reducible refine (pomadelaw07_same.calls k6 _ _ (rd_L3 x17_4 x21_5) _ _ (rd_L3 x17_4 x22_6) t923 _ ?side1 ?side2 ?side3 ?side4 A76.out).mono ?_); (case side1 => repeat (first | exact (by repeat (first | (with_reducible exact HR921_0.out) | (with_reducible refine Kd.C_alloc ?_ _) | (with_reducible refine Kd.C_drewN ?_ _) | (with_reducible refine Kd.C_drew ?_) | exact HR921_0.out)) | (with_reducible refine Kd.C_alloc ?_ _) | (with_reducible refine Kd.C_drewN ?_ _) | (with_reducible refine Kd.C_drew ?_))); (case side2 => exact HC921_0.out); (case side3 => repeat (first | exact (by repeat (first | (with_reducible exact HR922_0.out) | (with_reducible refine Kd.C_alloc ?_ _) | (with_reducible refine Kd.C_drewN ?_ _) | (with_reducible refine Kd.C_drew ?_) | exact HR922_0.out)) | (with_reducible refine Kd.C_alloc ?_ _) | (with_reducible refine Kd.C_drewN ?_ _) | (with_reducible refine Kd.C_drew ?_))); (case side4 => exact HC922_0.out); rintro e w' ⟨rfl, ⟨nd, rfl⟩⟩; (try first | exact ⟨rfl, _, World.drewN_drewN _ _ _⟩ | exact ⟨rfl, _, Eq.trans (World.drewN_drewN _ _ _) (congrArg (World.drewN _) (Nat.add_assoc _ _ _))⟩))))
                         go_ret
                         exact ⟨by first | rfl | (simp [errW_none, errW_some] <;> rfl) | (simp [*, errW_none, errW_some] <;> rfl), by repeat (first | (with_reducible first | exact HB.out | apply below_alloc | apply pw_below_drewN | apply below_drew1) | exact HB.out)⟩
                        ·rw [if_neg c78] at H
                         have c78b0 : (t923 != (x22_6 == (wrap64 (t903 - 1)))) = false := by simpa using c78
                         (try (have c78b1 : decide (t923 = (x22_6 == (wrap64 (t903 - 1)))) = true := by simpa using c78))
                         (try (have c78b2 : (t923 == (x22_6 == (wrap64 (t903 - 1)))) = true := by simpa using c78))
                         clear c78
                         have H' := Aside0.mk H
                         clear H
                         have p921 : 0 ≤ (x21_5 : Int) := of_decide_eq_true (by first | (with_reducible assumption) | assumption)
                         have q921 : x21_5 < (x17_4.length : Int) := of_decide_eq_true (by first | (with_reducible assumption) | assumption)
                         obtain ⟨ad921, A921_0, c921_0, e921, hx921_0, hl921_0, hi921_0⟩ := at_L3 (Kd.N_reads' HO_17.out).2.2 x21_5 p921 q921
                         cases e921
                         obtain ⟨ce921, hce921, hMe921, hcc921⟩ := Kd.N_get HO_17.out [] x21_5 p921 (by first | exact q921 | exact of_decide_eq_true (by first | (with_reducible assumption) | assumption) | (have e_ := (Kd.N_reads' HO_17.out).1; omega))
                         obtain ⟨ua921_0, uc921_0, rfl, ul921_0, ge921_0⟩ := Kd.FK_slice_open hMe921
                         have hv921_0 := hcc921 0 _ rfl
                         rw [Nat.add_zero, show ((Kd.slice 3 (Kd.int .i64))).sz = 1 from rfl, Nat.mul_one] at hv921_0
                         replace hv921_0 := Option.some.inj (hv921_0.symm.trans hx921_0)
                         injection hv921_0 with hva_ hvn_ hvc_
                         rw [hva_] at ge921_0
                         rw [hvc_] at ul921_0
                         have HL921_0 := Aside0.mk (show Kd.V (Kd.int .i64) 3 _ w.heap.size _ _ (rd_L3 x17_4 x21_5) from Kd.V_mk ul921_0 ge921_0)
                         clear hva_ hvn_ hvc_ ge921_0 ul921_0
                         clear hcc921 hce921
                         have HR921_0 := Aside0.mk hi921_0
                         have HC921_0 := Aside0.mk hl921_0
                         clear hi921_0 hl921_0
                         replace p921 := eq_true p921
                         replace q921 := eq_true q921
                         have p922 : 0 ≤ (x22_6 : Int) := of_decide_eq_true (by first | (with_reducible assumption) | assumption)
                         have q922 : x22_6 < (x17_4.length : Int) := of_decide_eq_true (by first | (with_reducible assumption) | assumption)
                         obtain ⟨ad922, A922_0, c922_0, e922, hx922_0, hl922_0, hi922_0⟩ := at_L3 (Kd.N_reads' HO_17.out).2.2 x22_6 p922 q922
                         obtain rfl : ad921 = ad922 := (by injection e922)
                         obtain ⟨ce922, hce922, hMe922, hcc922⟩ := Kd.N_get HO_17.out [] x22_6 p922 (by first | exact q922 | exact of_decide_eq_true (by first | (with_reducible assumption) | assumption) | (have e_ := (Kd.N_reads' HO_17.out).1; omega))
                         obtain ⟨ua922_0, uc922_0, rfl, ul922_0, ge922_0⟩ := Kd.FK_slice_open hMe922
                         have hv922_0 := hcc922 0 _ rfl
                         rw [Nat.add_zero, show ((Kd.slice 3 (Kd.int .i64))).sz = 1 from rfl, Nat.mul_one] at hv922_0
                         replace hv922_0 := Option.some.inj (hv922_0.symm.trans hx922_0)
                         injection hv922_0 with hva_ hvn_ hvc_
                         rw [hva_] at ge922_0
                         rw [hvc_] at ul922_0
                         have HL922_0 := Aside0.mk (show Kd.V (Kd.int .i64) 3 _ w.heap.size _ _ (rd_L3 x17_4 x22_6) from Kd.V_mk ul922_0 ge922_0)
                         clear hva_ hvn_ hvc_ ge922_0 ul922_0
                         clear hcc922 hce922
                         have HR922_0 := Aside0.mk hi922_0
                         have HC922_0 := Aside0.mk hl922_0
                         clear hi922_0 hl922_0
                         replace p922 := eq_true p922
                         replace q922 := eq_true q922
                         go_wp2_with (first | (go_at_call 23; (with_reducible refine (pomadelaw07_same.calls k6 _ _ (rd_L3 x17_4 x21_5) _ _ (rd_L3 x17_4 x22_6) t923 _ ?side1 ?side2 ?side3 ?side4 A76.out).mono ?_); (case side1 => repeat (first | exact (by repeat (first | (with_reducible exact HR921_0.out) | (with_reducible refine Kd.C_alloc ?_ _) | (with_reducible refine Kd.C_drewN ?_ _) | (with_reducible refine Kd.C_drew ?_) | exact HR921_0.out)) | (with_reducible refine Kd.C_alloc ?_ _) | (with_reducible refine Kd.C_drewN ?_ _) | (with_reducible refine Kd.C_drew ?_))); (case side2 => exact HC921_0.out); (case side3 => repeat (first | exact (by repeat (first | (with_reducible exact HR922_0.out) | (with_reducible refine Kd.C_alloc ?_ _) | (with_reducible refine Kd.C_drewN ?_ _) | (with_reducible refine Kd.C_drew ?_) | exact HR922_0.out)) | (with_reducible refine Kd.C_alloc ?_ _) | (with_reducible refine Kd.C_drewN ?_ _) | (with_reducible refine Kd.C_drew ?_))); (case side4 => exact HC922_0.out); rintro e w' ⟨rfl, ⟨nd, rfl⟩⟩; (try first | exact ⟨rfl, _, World.drewN_drewN _ _ _⟩ | exact ⟨rfl, _, Eq.trans (World.drewN_drewN _ _ _) (congrArg (World.drewN _) (Nat.add_assoc _ _ _))⟩)))
                         repeat (go_quiet (first | (go_at_call 23; (with_reducible refine (pomadelaw07_same.calls k6 _ _ (rd_L3 x17_4 x21_5) _ _ (rd_L3 x17_4 x22_6) t923 _ ?side1 ?side2 ?side3 ?side4 A76.out).mono ?_); (case side1 => repeat (first | exact (by repeat (first | (with_reducible exact HR921_0.out) | (with_reducible refine Kd.C_alloc ?_ _) | (with_reducible refine Kd.C_drewN ?_ _) | (with_reducible refine Kd.C_drew ?_) | exact HR921_0.out)) | (with_reducible refine Kd.C_alloc ?_ _) | (with_reducible refine Kd.C_drewN ?_ _) | (with_reducible refine Kd.C_drew ?_))); (case side2 => exact HC921_0.out); (case side3 => repeat (first | exact (by repeat (first | (with_reducible exact HR922_0.out) | (with_reducible refine Kd.C_alloc ?_ _) | (with_reducible refine Kd.C_drewN ?_ _) | (with_reducible refine Kd.C_drew ?_) | exact HR922_0.out)) | (with_reducible refine Kd.C_alloc ?_ _) | (with_reducible refine Kd.C_drewN ?_ _) | (with_reducible refine Kd.C_drew ?_))); (case side4 => exact HC922_0.out); rintro e w' ⟨rfl, ⟨nd, rfl⟩⟩; (try first | exact ⟨rfl, _, World.drewN_drewN _ _ _⟩ | exact ⟨rfl, _, Eq.trans (World.drewN_drewN _ _ _) (congrArg (World.drewN _) (Nat.add_assoc _ _ _))⟩))); try go_wp2_with (first | (go_at_call 23; (with_reducible refine (pomadelaw07_same.calls k6 _ _ (rd_L3 x17_4 x21_5) _ _ (rd_L3 x17_4 x22_6) t923 _ ?side1 ?side2 ?side3 ?side4 A76.out).mono ?_); (case side1 => repeat (first | exact (by repeat (first | (with_reducible exact HR921_0.out) | (with_reducible refine Kd.C_alloc ?_ _) | (with_reducible refine Kd.C_drewN ?_ _) | (with_reducible refine Kd.C_drew ?_) | exact HR921_0.out)) | (with_reducible refine Kd.C_alloc ?_ _) | (with_reducible refine Kd.C_drewN ?_ _) | (with_reducible refine Kd.C_drew ?_))); (case side2 => exact HC921_0.out); (case side3 => repeat (first | exact (by repeat (first | (with_reducible exact HR922_0.out) | (with_reducible refine Kd.C_alloc ?_ _) | (with_reducible refine Kd.C_drewN ?_ _) | (with_reducible refine Kd.C_drew ?_) | exact HR922_0.out)) | (with_reducible refine Kd.C_alloc ?_ _) | (with_reducible refine Kd.C_drewN ?_ _) | (with_reducible refine Kd.C_drew ?_))); (case side4 => exact HC922_0.out); rintro e w' ⟨rfl, ⟨nd, rfl⟩⟩; (try first | exact ⟨rfl, _, World.drewN_drewN _ _ _⟩ | exact ⟨rfl, _, Eq.trans (World.drewN_drewN _ _ _) (congrArg (World.drewN _) (Nat.add_assoc _ _ _))⟩))))
                         go_roundg k6
                         case measure => have := HJ2.out; have := HJ8.out; have := HJ36.out; have := HK4.out; have := HK5.out; have := HK6.out; omega
                         case rel => exact ⟨(wrap64 (x22_6 + 1)), (by first | rfl | (simp; done) | (simp [*]; done)), H', ⟨by have := HJ2.out; have := HJ8.out; have := HJ36.out; have := HK4.out; have := HK5.out; have := HK6.out; omega⟩, ⟨by (with_reducible repeat (first | apply Kd.N_alloc | apply Kd.N_drewN | apply Kd.N_drew)); exact HO_17.out⟩, ⟨by repeat (first | (with_reducible first | exact HB.out | apply below_alloc | apply pw_below_drewN | apply below_drew1) | exact HB.out)⟩⟩
                       ·rw [if_neg c77] at H
                        have c77b0 : (x21_5 == (wrap64 (t904 - 1))) = false := beq_eq_false_iff_ne.mpr c77
                        have c77b1 : (x21_5 != (wrap64 (t904 - 1))) = true := bne_iff_ne.mpr c77
                        by_cases c79 : (t923 != false) = true
                        ·rw [if_pos c79] at H
                         have c79b0 : (t923 != false) = true := c79
                         (try (have c79b1 : decide (t923 = false) = false := by simpa using c79))
                         (try (have c79b2 : (t923 == false) = false := by simpa using c79))
                         (try (have c79b3 : ¬ (t923 = false) := by simpa using c79))
                         clear c79
                         obtain rfl := Option.some.inj H
                         have p921 : 0 ≤ (x21_5 : Int) := of_decide_eq_true (by first | (with_reducible assumption) | assumption)
                         have q921 : x21_5 < (x17_4.length : Int) := of_decide_eq_true (by first | (with_reducible assumption) | assumption)
                         obtain ⟨ad921, A921_0, c921_0, e921, hx921_0, hl921_0, hi921_0⟩ := at_L3 (Kd.N_reads' HO_17.out).2.2 x21_5 p921 q921
                         cases e921
                         obtain ⟨ce921, hce921, hMe921, hcc921⟩ := Kd.N_get HO_17.out [] x21_5 p921 (by first | exact q921 | exact of_decide_eq_true (by first | (with_reducible assumption) | assumption) | (have e_ := (Kd.N_reads' HO_17.out).1; omega))
                         obtain ⟨ua921_0, uc921_0, rfl, ul921_0, ge921_0⟩ := Kd.FK_slice_open hMe921
                         have hv921_0 := hcc921 0 _ rfl
                         rw [Nat.add_zero, show ((Kd.slice 3 (Kd.int .i64))).sz = 1 from rfl, Nat.mul_one] at hv921_0
                         replace hv921_0 := Option.some.inj (hv921_0.symm.trans hx921_0)
                         injection hv921_0 with hva_ hvn_ hvc_
                         rw [hva_] at ge921_0
                         rw [hvc_] at ul921_0
                         have HL921_0 := Aside0.mk (show Kd.V (Kd.int .i64) 3 _ w.heap.size _ _ (rd_L3 x17_4 x21_5) from Kd.V_mk ul921_0 ge921_0)
                         clear hva_ hvn_ hvc_ ge921_0 ul921_0
                         clear hcc921 hce921
                         have HR921_0 := Aside0.mk hi921_0
                         have HC921_0 := Aside0.mk hl921_0
                         clear hi921_0 hl921_0
                         replace p921 := eq_true p921
                         replace q921 := eq_true q921
                         have p922 : 0 ≤ (x22_6 : Int) := of_decide_eq_true (by first | (with_reducible assumption) | assumption)
                         have q922 : x22_6 < (x17_4.length : Int) := of_decide_eq_true (by first | (with_reducible assumption) | assumption)
                         obtain ⟨ad922, A922_0, c922_0, e922, hx922_0, hl922_0, hi922_0⟩ := at_L3 (Kd.N_reads' HO_17.out).2.2 x22_6 p922 q922
                         obtain rfl : ad921 = ad922 := (by injection e922)
                         obtain ⟨ce922, hce922, hMe922, hcc922⟩ := Kd.N_get HO_17.out [] x22_6 p922 (by first | exact q922 | exact of_decide_eq_true (by first | (with_reducible assumption) | assumption) | (have e_ := (Kd.N_reads' HO_17.out).1; omega))
                         obtain ⟨ua922_0, uc922_0, rfl, ul922_0, ge922_0⟩ := Kd.FK_slice_open hMe922
                         have hv922_0 := hcc922 0 _ rfl
                         rw [Nat.add_zero, show ((Kd.slice 3 (Kd.int .i64))).sz = 1 from rfl, Nat.mul_one] at hv922_0
                         replace hv922_0 := Option.some.inj (hv922_0.symm.trans hx922_0)
                         injection hv922_0 with hva_ hvn_ hvc_
                         rw [hva_] at ge922_0
                         rw [hvc_] at ul922_0
                         have HL922_0 := Aside0.mk (show Kd.V (Kd.int .i64) 3 _ w.heap.size _ _ (rd_L3 x17_4 x22_6) from Kd.V_mk ul922_0 ge922_0)
                         clear hva_ hvn_ hvc_ ge922_0 ul922_0
                         clear hcc922 hce922
                         have HR922_0 := Aside0.mk hi922_0
                         have HC922_0 := Aside0.mk hl922_0
                         clear hi922_0 hl922_0
                         replace p922 := eq_true p922
                         replace q922 := eq_true q922
                         go_wp2_with (first | (go_at_call 23; (with_reducible refine (pomadelaw07_same.calls k6 _ _ (rd_L3 x17_4 x21_5) _ _ (rd_L3 x17_4 x22_6) t923 _ ?side1 ?side2 ?side3 ?side4 A76.out).mono ?_); (case side1 => repeat (first | exact (by repeat (first | (with_reducible exact HR921_0.out) | (with_reducible refine Kd.C_alloc ?_ _) | (with_reducible refine Kd.C_drewN ?_ _) | (with_reducible refine Kd.C_drew ?_) | exact HR921_0.out)) | (with_reducible refine Kd.C_alloc ?_ _) | (with_reducible refine Kd.C_drewN ?_ _) | (with_reducible refine Kd.C_drew ?_))); (case side2 => exact HC921_0.out); (case side3 => repeat (first | exact (by repeat (first | (with_reducible exact HR922_0.out) | (with_reducible refine Kd.C_alloc ?_ _) | (with_reducible refine Kd.C_drewN ?_ _) | (with_reducible refine Kd.C_drew ?_) | exact HR922_0.out)) | (with_reducible refine Kd.C_alloc ?_ _) | (with_reducible refine Kd.C_drewN ?_ _) | (with_reducible refine Kd.C_drew ?_))); (case side4 => exact HC922_0.out); rintro e w' ⟨rfl, ⟨nd, rfl⟩⟩; (try first | exact ⟨rfl, _, World.drewN_drewN _ _ _⟩ | exact ⟨rfl, _, Eq.trans (World.drewN_drewN _ _ _) (congrArg (World.drewN _) (Nat.add_assoc _ _ _))⟩)))
                         repeat (go_quiet (first | (go_at_call 23; (with_reducible refine (pomadelaw07_same.calls k6 _ _ (rd_L3 x17_4 x21_5) _ _ (rd_L3 x17_4 x22_6) t923 _ ?side1 ?side2 ?side3 ?side4 A76.out).mono ?_); (case side1 => repeat (first | exact (by repeat (first | (with_reducible exact HR921_0.out) | (with_reducible refine Kd.C_alloc ?_ _) | (with_reducible refine Kd.C_drewN ?_ _) | (with_reducible refine Kd.C_drew ?_) | exact HR921_0.out)) | (with_reducible refine Kd.C_alloc ?_ _) | (with_reducible refine Kd.C_drewN ?_ _) | (with_reducible refine Kd.C_drew ?_))); (case side2 => exact HC921_0.out); (case side3 => repeat (first | exact (by repeat (first | (with_reducible exact HR922_0.out) | (with_reducible refine Kd.C_alloc ?_ _) | (with_reducible refine Kd.C_drewN ?_ _) | (with_reducible refine Kd.C_drew ?_) | exact HR922_0.out)) | (with_reducible refine Kd.C_alloc ?_ _) | (with_reducible refine Kd.C_drewN ?_ _) | (with_reducible refine Kd.C_drew ?_))); (case side4 => exact HC922_0.out); rintro e w' ⟨rfl, ⟨nd, rfl⟩⟩; (try first | exact ⟨rfl, _, World.drewN_drewN _ _ _⟩ | exact ⟨rfl, _, Eq.trans (World.drewN_drewN _ _ _) (congrArg (World.drewN _) (Nat.add_assoc _ _ _))⟩))); try go_wp2_with (first | (go_at_call 23; (with_reducible refine (pomadelaw07_same.calls k6 _ _ (rd_L3 x17_4 x21_5) _ _ (rd_L3 x17_4 x22_6) t923 _ ?side1 ?side2 ?side3 ?side4 A76.out).mono ?_); (case side1 => repeat (first | exact (by repeat (first | (with_reducible exact HR921_0.out) | (with_reducible refine Kd.C_alloc ?_ _) | (with_reducible refine Kd.C_drewN ?_ _) | (with_reducible refine Kd.C_drew ?_) | exact HR921_0.out)) | (with_reducible refine Kd.C_alloc ?_ _) | (with_reducible refine Kd.C_drewN ?_ _) | (with_reducible refine Kd.C_drew ?_))); (case side2 => exact HC921_0.out); (case side3 => repeat (first | exact (by repeat (first | (with_reducible exact HR922_0.out) | (with_reducible refine Kd.C_alloc ?_ _) | (with_reducible refine Kd.C_drewN ?_ _) | (with_reducible refine Kd.C_drew ?_) | exact HR922_0.out)) | (with_reducible refine Kd.C_alloc ?_ _) | (with_reducible refine Kd.C_drewN ?_ _) | (with_reducible refine Kd.C_drew ?_))); (case side4 => exact HC922_0.out); rintro e w' ⟨rfl, ⟨nd, rfl⟩⟩; (try first | exact ⟨rfl, _, World.drewN_drewN _ _ _⟩ | exact ⟨rfl, _, Eq.trans (World.drewN_drewN _ _ _) (congrArg (World.drewN _) (Nat.add_assoc _ _ _))⟩))))
                         go_ret
                         exact ⟨by first | rfl | (simp [errW_none, errW_some] <;> rfl) | (simp [*, errW_none, errW_some] <;> rfl), by repeat (first | (with_reducible first | exact HB.out | apply below_alloc | apply pw_below_drewN | apply below_drew1) | exact HB.out)⟩
                        ·rw [if_neg c79] at H
                         have c79b0 : (t923 != false) = false := by simpa using c79
                         (try (have c79b1 : decide (t923 = false) = true := by simpa using c79))
                         (try (have c79b2 : (t923 == false) = true := by simpa using c79))
                         clear c79
                         have H' := Aside0.mk H
                         clear H
                         have p921 : 0 ≤ (x21_5 : Int) := of_decide_eq_true (by first | (with_reducible assumption) | assumption)
                         have q921 : x21_5 < (x17_4.length : Int) := of_decide_eq_true (by first | (with_reducible assumption) | assumption)
                         obtain ⟨ad921, A921_0, c921_0, e921, hx921_0, hl921_0, hi921_0⟩ := at_L3 (Kd.N_reads' HO_17.out).2.2 x21_5 p921 q921
                         cases e921
                         obtain ⟨ce921, hce921, hMe921, hcc921⟩ := Kd.N_get HO_17.out [] x21_5 p921 (by first | exact q921 | exact of_decide_eq_true (by first | (with_reducible assumption) | assumption) | (have e_ := (Kd.N_reads' HO_17.out).1; omega))
                         obtain ⟨ua921_0, uc921_0, rfl, ul921_0, ge921_0⟩ := Kd.FK_slice_open hMe921
                         have hv921_0 := hcc921 0 _ rfl
                         rw [Nat.add_zero, show ((Kd.slice 3 (Kd.int .i64))).sz = 1 from rfl, Nat.mul_one] at hv921_0
                         replace hv921_0 := Option.some.inj (hv921_0.symm.trans hx921_0)
                         injection hv921_0 with hva_ hvn_ hvc_
                         rw [hva_] at ge921_0
                         rw [hvc_] at ul921_0
                         have HL921_0 := Aside0.mk (show Kd.V (Kd.int .i64) 3 _ w.heap.size _ _ (rd_L3 x17_4 x21_5) from Kd.V_mk ul921_0 ge921_0)
                         clear hva_ hvn_ hvc_ ge921_0 ul921_0
                         clear hcc921 hce921
                         have HR921_0 := Aside0.mk hi921_0
                         have HC921_0 := Aside0.mk hl921_0
                         clear hi921_0 hl921_0
                         replace p921 := eq_true p921
                         replace q921 := eq_true q921
                         have p922 : 0 ≤ (x22_6 : Int) := of_decide_eq_true (by first | (with_reducible assumption) | assumption)
                         have q922 : x22_6 < (x17_4.length : Int) := of_decide_eq_true (by first | (with_reducible assumption) | assumption)
                         obtain ⟨ad922, A922_0, c922_0, e922, hx922_0, hl922_0, hi922_0⟩ := at_L3 (Kd.N_reads' HO_17.out).2.2 x22_6 p922 q922
                         obtain rfl : ad921 = ad922 := (by injection e922)
                         obtain ⟨ce922, hce922, hMe922, hcc922⟩ := Kd.N_get HO_17.out [] x22_6 p922 (by first | exact q922 | exact of_decide_eq_true (by first | (with_reducible assumption) | assumption) | (have e_ := (Kd.N_reads' HO_17.out).1; omega))
                         obtain ⟨ua922_0, uc922_0, rfl, ul922_0, ge922_0⟩ := Kd.FK_slice_open hMe922
                         have hv922_0 := hcc922 0 _ rfl
                         rw [Nat.add_zero, show ((Kd.slice 3 (Kd.int .i64))).sz = 1 from rfl, Nat.mul_one] at hv922_0
                         replace hv922_0 := Option.some.inj (hv922_0.symm.trans hx922_0)
                         injection hv922_0 with hva_ hvn_ hvc_
                         rw [hva_] at ge922_0
                         rw [hvc_] at ul922_0
                         have HL922_0 := Aside0.mk (show Kd.V (Kd.int .i64) 3 _ w.heap.size _ _ (rd_L3 x17_4 x22_6) from Kd.V_mk ul922_0 ge922_0)
                         clear hva_ hvn_ hvc_ ge922_0 ul922_0
                         clear hcc922 hce922
                         have HR922_0 := Aside0.mk hi922_0
                         have HC922_0 := Aside0.mk hl922_0
                         clear hi922_0 hl922_0
                         replace p922 := eq_true p922
                         replace q922 := eq_true q922
                         go_wp2_with (first | (go_at_call 23; (with_reducible refine (pomadelaw07_same.calls k6 _ _ (rd_L3 x17_4 x21_5) _ _ (rd_L3 x17_4 x22_6) t923 _ ?side1 ?side2 ?side3 ?side4 A76.out).mono ?_); (case side1 => repeat (first | exact (by repeat (first | (with_reducible exact HR921_0.out) | (with_reducible refine Kd.C_alloc ?_ _) | (with_reducible refine Kd.C_drewN ?_ _) | (with_reducible refine Kd.C_drew ?_) | exact HR921_0.out)) | (with_reducible refine Kd.C_alloc ?_ _) | (with_reducible refine Kd.C_drewN ?_ _) | (with_reducible refine Kd.C_drew ?_))); (case side2 => exact HC921_0.out); (case side3 => repeat (first | exact (by repeat (first | (with_reducible exact HR922_0.out) | (with_reducible refine Kd.C_alloc ?_ _) | (with_reducible refine Kd.C_drewN ?_ _) | (with_reducible refine Kd.C_drew ?_) | exact HR922_0.out)) | (with_reducible refine Kd.C_alloc ?_ _) | (with_reducible refine Kd.C_drewN ?_ _) | (with_reducible refine Kd.C_drew ?_))); (case side4 => exact HC922_0.out); rintro e w' ⟨rfl, ⟨nd, rfl⟩⟩; (try first | exact ⟨rfl, _, World.drewN_drewN _ _ _⟩ | exact ⟨rfl, _, Eq.trans (World.drewN_drewN _ _ _) (congrArg (World.drewN _) (Nat.add_assoc _ _ _))⟩)))
                         repeat (go_quiet (first | (go_at_call 23; (with_reducible refine (pomadelaw07_same.calls k6 _ _ (rd_L3 x17_4 x21_5) _ _ (rd_L3 x17_4 x22_6) t923 _ ?side1 ?side2 ?side3 ?side4 A76.out).mono ?_); (case side1 => repeat (first | exact (by repeat (first | (with_reducible exact HR921_0.out) | (with_reducible refine Kd.C_alloc ?_ _) | (with_reducible refine Kd.C_drewN ?_ _) | (with_reducible refine Kd.C_drew ?_) | exact HR921_0.out)) | (with_reducible refine Kd.C_alloc ?_ _) | (with_reducible refine Kd.C_drewN ?_ _) | (with_reducible refine Kd.C_drew ?_))); (case side2 => exact HC921_0.out); (case side3 => repeat (first | exact (by repeat (first | (with_reducible exact HR922_0.out) | (with_reducible refine Kd.C_alloc ?_ _) | (with_reducible refine Kd.C_drewN ?_ _) | (with_reducible refine Kd.C_drew ?_) | exact HR922_0.out)) | (with_reducible refine Kd.C_alloc ?_ _) | (with_reducible refine Kd.C_drewN ?_ _) | (with_reducible refine Kd.C_drew ?_))); (case side4 => exact HC922_0.out); rintro e w' ⟨rfl, ⟨nd, rfl⟩⟩; (try first | exact ⟨rfl, _, World.drewN_drewN _ _ _⟩ | exact ⟨rfl, _, Eq.trans (World.drewN_drewN _ _ _) (congrArg (World.drewN _) (Nat.add_assoc _ _ _))⟩))); try go_wp2_with (first | (go_at_call 23; (with_reducible refine (pomadelaw07_same.calls k6 _ _ (rd_L3 x17_4 x21_5) _ _ (rd_L3 x17_4 x22_6) t923 _ ?side1 ?side2 ?side3 ?side4 A76.out).mono ?_); (case side1 => repeat (first | exact (by repeat (first | (with_reducible exact HR921_0.out) | (with_reducible refine Kd.C_alloc ?_ _) | (with_reducible refine Kd.C_drewN ?_ _) | (with_reducible refine Kd.C_drew ?_) | exact HR921_0.out)) | (with_reducible refine Kd.C_alloc ?_ _) | (with_reducible refine Kd.C_drewN ?_ _) | (with_reducible refine Kd.C_drew ?_))); (case side2 => exact HC921_0.out); (case side3 => repeat (first | exact (by repeat (first | (with_reducible exact HR922_0.out) | (with_reducible refine Kd.C_alloc ?_ _) | (with_reducible refine Kd.C_drewN ?_ _) | (with_reducible refine Kd.C_drew ?_) | exact HR922_0.out)) | (with_reducible refine Kd.C_alloc ?_ _) | (with_reducible refine Kd.C_drewN ?_ _) | (with_reducible refine Kd.C_drew ?_))); (case side4 => exact HC922_0.out); rintro e w' ⟨rfl, ⟨nd, rfl⟩⟩; (try first | exact ⟨rfl, _, World.drewN_drewN _ _ _⟩ | exact ⟨rfl, _, Eq.trans (World.drewN_drewN _ _ _) (congrArg (World.drewN _) (Nat.add_assoc _ _ _))⟩))))
                         go_roundg k6
                         case measure => have := HJ2.out; have := HJ8.out; have := HJ36.out; have := HK4.out; have := HK5.out; have := HK6.out; omega
                         case rel => exact ⟨(wrap64 (x22_6 + 1)), (by first | rfl | (simp; done) | (simp [*]; done)), H', ⟨by have := HJ2.out; have := HJ8.out; have := HJ36.out; have := HK4.out; have := HK5.out; have := HK6.out; omega⟩, ⟨by (with_reducible repeat (first | apply Kd.N_alloc | apply Kd.N_drewN | apply Kd.N_drew)); exact HO_17.out⟩, ⟨by repeat (first | (with_reducible first | exact HB.out | apply below_alloc | apply pw_below_drewN | apply below_drew1) | exact HB.out)⟩⟩
                      ·rw [if_neg c75] at H
                       exact absurd H (by simp)
                     ·rw [if_neg c74] at H
                      exact absurd H (by simp)
                    ·rw [if_neg c73] at H
                     exact absurd H (by simp)
                   ·rw [if_neg c72] at H
                    exact absurd H (by simp)
                  ·rw [if_neg c71] at H
                   have c71b0 : decide (x22_6 < x21_5) = false := decide_eq_false c71
                   clear c71
                   have H' := Aside0.mk H
                   clear H
                   go_wp2
                   repeat (go_quiet (fail); try go_wp2)
                   go_roundg k6
                   case measure => have := HJ2.out; have := HJ8.out; have := HJ36.out; have := HK4.out; have := HK5.out; have := HK6.out; omega
                   case rel => exact ⟨(wrap64 (x21_5 + 1)), (by first | rfl | (simp; done) | (simp [*]; done)), H', ⟨by have := HJ2.out; have := HJ8.out; have := HJ36.out; have := HK4.out; have := HK5.out; have := HK6.out; omega⟩, ⟨by (with_reducible repeat (first | apply Kd.N_alloc | apply Kd.N_drewN | apply Kd.N_drew)); exact HO_17.out⟩, ⟨by repeat (first | (with_reducible first | exact HB.out | apply below_alloc | apply pw_below_drewN | apply below_drew1) | exact HB.out)⟩⟩
               ·rw [if_neg c70] at H
                have c70b0 : decide (x21_5 < t904) = false := decide_eq_false c70
                clear c70
                replace H := Option.bind_eq_some_iff.mp H
                obtain ⟨t920, A800, H⟩ := H
                replace H : (some t920) = some r := H
                have A80 := Aside0.mk A800
                clear A800
                obtain rfl := Option.some.inj H
                go_wp2_with (first | (go_at_call 20; (with_reducible refine (pomadelaw07_alive.calls  t920 _ A80.out).mono ?_); rintro e w81 ⟨rfl, hb⟩; have n0_ := Aside0.mk (Kd.N_below (by (with_reducible repeat (first | apply Kd.N_alloc | apply Kd.N_drewN | apply Kd.N_drew)); exact HO_17.out) hb); have n1_ := Aside0.mk (below_step (by repeat (first | (with_reducible first | exact HB.out | apply below_alloc | apply pw_below_drewN | apply below_drew1) | exact HB.out)) hb); clear HO_17; clear HB; have HO_17 := n0_; have HB := n1_; clear n0_ n1_; (try clear hb); (try clear hb2); (try clear hk); (try clear hi)))
                repeat (go_quiet (first | (go_at_call 20; (with_reducible refine (pomadelaw07_alive.calls  t920 _ A80.out).mono ?_); rintro e w81 ⟨rfl, hb⟩; have n0_ := Aside0.mk (Kd.N_below (by (with_reducible repeat (first | apply Kd.N_alloc | apply Kd.N_drewN | apply Kd.N_drew)); exact HO_17.out) hb); have n1_ := Aside0.mk (below_step (by repeat (first | (with_reducible first | exact HB.out | apply below_alloc | apply pw_below_drewN | apply below_drew1) | exact HB.out)) hb); clear HO_17; clear HB; have HO_17 := n0_; have HB := n1_; clear n0_ n1_; (try clear hb); (try clear hb2); (try clear hk); (try clear hi))); try go_wp2_with (first | (go_at_call 20; (with_reducible refine (pomadelaw07_alive.calls  t920 _ A80.out).mono ?_); rintro e w81 ⟨rfl, hb⟩; have n0_ := Aside0.mk (Kd.N_below (by (with_reducible repeat (first | apply Kd.N_alloc | apply Kd.N_drewN | apply Kd.N_drew)); exact HO_17.out) hb); have n1_ := Aside0.mk (below_step (by repeat (first | (with_reducible first | exact HB.out | apply below_alloc | apply pw_below_drewN | apply below_drew1) | exact HB.out)) hb); clear HO_17; clear HB; have HO_17 := n0_; have HB := n1_; clear n0_ n1_; (try clear hb); (try clear hb2); (try clear hk); (try clear hi))))
                go_ret
                exact ⟨by first | rfl | (simp [errW_none, errW_some] <;> rfl) | (simp [*, errW_none, errW_some] <;> rfl), by repeat (first | (with_reducible first | exact HB.out | apply below_alloc | apply pw_below_drewN | apply below_drew1) | exact HB.out)⟩
      ·rw [if_neg c34] at H
       have c34b0 : (t897 == 0) = false := beq_eq_false_iff_ne.mpr c34
       have c34b1 : (t897 != 0) = true := bne_iff_ne.mpr c34
       by_cases c82 : t896.toList = ([] : List UInt8)
       ·rw [if_pos c82] at H
        have c82b0 : (t896.toList == ([] : List UInt8)) = true := beq_iff_eq.mpr c82
        have c82b1 : (t896.toList != ([] : List UInt8)) = false := bne_eq_false_iff_eq.mpr c82
        clear c82
        replace H := Option.bind_eq_some_iff.mp H
        obtain ⟨t898, A830, H⟩ := H
        replace H : (some t898) = some r := H
        have A83 := Aside0.mk A830
        clear A830
        obtain rfl := Option.some.inj H
        go_wp2_with (first | (go_at_call 42; (with_reducible refine (plait_Arches.calls kj8 _ _ l0 t896 t897 _ ?side1 ?side2 A33.out).mono ?_); (case side1 => repeat (first | exact (Kd.V_reads' HO_0.out).2.2 | (with_reducible refine Kd.C_alloc ?_ _) | (with_reducible refine Kd.C_drewN ?_ _) | (with_reducible refine Kd.C_drew ?_))); (case side2 => exact (Kd.V_reads' HO_0.out).2.1); rintro e w84 ⟨rfl, hb⟩; have n0_ := Aside0.mk (Kd.V_below (by (with_reducible repeat (first | apply Kd.V_alloc | apply Kd.V_drewN | apply Kd.V_drew)); exact HO_0.out) hb); have n1_ := Aside0.mk (below_step (by repeat (first | (with_reducible first | exact HB.out | apply below_alloc | apply pw_below_drewN | apply below_drew1) | exact HB.out)) hb); clear HO_0; clear HB; have HO_0 := n0_; have HB := n1_; clear n0_ n1_; (try clear hb); (try clear hb2); (try clear hk); (try clear hi)) | (go_at_call 20; (with_reducible refine (pomadelaw07_alive.calls  t898 _ A83.out).mono ?_); rintro e w85 ⟨rfl, hb⟩; have n0_ := Aside0.mk (Kd.V_below (by (with_reducible repeat (first | apply Kd.V_alloc | apply Kd.V_drewN | apply Kd.V_drew)); exact HO_0.out) hb); have n1_ := Aside0.mk (below_step (by repeat (first | (with_reducible first | exact HB.out | apply below_alloc | apply pw_below_drewN | apply below_drew1) | exact HB.out)) hb); clear HO_0; clear HB; have HO_0 := n0_; have HB := n1_; clear n0_ n1_; (try clear hb); (try clear hb2); (try clear hk); (try clear hi)))
        repeat (go_quiet (first | (go_at_call 42; (with_reducible refine (plait_Arches.calls kj8 _ _ l0 t896 t897 _ ?side1 ?side2 A33.out).mono ?_); (case side1 => repeat (first | exact (Kd.V_reads' HO_0.out).2.2 | (with_reducible refine Kd.C_alloc ?_ _) | (with_reducible refine Kd.C_drewN ?_ _) | (with_reducible refine Kd.C_drew ?_))); (case side2 => exact (Kd.V_reads' HO_0.out).2.1); rintro e w84 ⟨rfl, hb⟩; have n0_ := Aside0.mk (Kd.V_below (by (with_reducible repeat (first | apply Kd.V_alloc | apply Kd.V_drewN | apply Kd.V_drew)); exact HO_0.out) hb); have n1_ := Aside0.mk (below_step (by repeat (first | (with_reducible first | exact HB.out | apply below_alloc | apply pw_below_drewN | apply below_drew1) | exact HB.out)) hb); clear HO_0; clear HB; have HO_0 := n0_; have HB := n1_; clear n0_ n1_; (try clear hb); (try clear hb2); (try clear hk); (try clear hi)) | (go_at_call 20; (with_reducible refine (pomadelaw07_alive.calls  t898 _ A83.out).mono ?_); rintro e w85 ⟨rfl, hb⟩; have n0_ := Aside0.mk (Kd.V_below (by (with_reducible repeat (first | apply Kd.V_alloc | apply Kd.V_drewN | apply Kd.V_drew)); exact HO_0.out) hb); have n1_ := Aside0.mk (below_step (by repeat (first | (with_reducible first | exact HB.out | apply below_alloc | apply pw_below_drewN | apply below_drew1) | exact HB.out)) hb); clear HO_0; clear HB; have HO_0 := n0_; have HB := n1_; clear n0_ n1_; (try clear hb); (try clear hb2); (try clear hk); (try clear hi))); try go_wp2_with (first | (go_at_call 42; (with_reducible refine (plait_Arches.calls kj8 _ _ l0 t896 t897 _ ?side1 ?side2 A33.out).mono ?_); (case side1 => repeat (first | exact (Kd.V_reads' HO_0.out).2.2 | (with_reducible refine Kd.C_alloc ?_ _) | (with_reducible refine Kd.C_drewN ?_ _) | (with_reducible refine Kd.C_drew ?_))); (case side2 => exact (Kd.V_reads' HO_0.out).2.1); rintro e w84 ⟨rfl, hb⟩; have n0_ := Aside0.mk (Kd.V_below (by (with_reducible repeat (first | apply Kd.V_alloc | apply Kd.V_drewN | apply Kd.V_drew)); exact HO_0.out) hb); have n1_ := Aside0.mk (below_step (by repeat (first | (with_reducible first | exact HB.out | apply below_alloc | apply pw_below_drewN | apply below_drew1) | exact HB.out)) hb); clear HO_0; clear HB; have HO_0 := n0_; have HB := n1_; clear n0_ n1_; (try clear hb); (try clear hb2); (try clear hk); (try clear hi)) | (go_at_call 20; (with_reducible refine (pomadelaw07_alive.calls  t898 _ A83.out).mono ?_); rintro e w85 ⟨rfl, hb⟩; have n0_ := Aside0.mk (Kd.V_below (by (with_reducible repeat (first | apply Kd.V_alloc | apply Kd.V_drewN | apply Kd.V_drew)); exact HO_0.out) hb); have n1_ := Aside0.mk (below_step (by repeat (first | (with_reducible first | exact HB.out | apply below_alloc | apply pw_below_drewN | apply below_drew1) | exact HB.out)) hb); clear HO_0; clear HB; have HO_0 := n0_; have HB := n1_; clear n0_ n1_; (try clear hb); (try clear hb2); (try clear hk); (try clear hi))))
        go_ret
        exact ⟨by first | rfl | (simp [errW_none, errW_some] <;> rfl) | (simp [*, errW_none, errW_some] <;> rfl), by repeat (first | (with_reducible first | exact HB.out | apply below_alloc | apply pw_below_drewN | apply below_drew1) | exact HB.out)⟩
       ·rw [if_neg c82] at H
        have c82b0 : (t896.toList == ([] : List UInt8)) = false := beq_eq_false_iff_ne.mpr c82
        have c82b1 : (t896.toList != ([] : List UInt8)) = true := bne_iff_ne.mpr c82
        obtain rfl := Option.some.inj H
        go_wp2_with (first | (go_at_call 42; (with_reducible refine (plait_Arches.calls kj8 _ _ l0 t896 t897 _ ?side1 ?side2 A33.out).mono ?_); (case side1 => repeat (first | exact (Kd.V_reads' HO_0.out).2.2 | (with_reducible refine Kd.C_alloc ?_ _) | (with_reducible refine Kd.C_drewN ?_ _) | (with_reducible refine Kd.C_drew ?_))); (case side2 => exact (Kd.V_reads' HO_0.out).2.1); rintro e w86 ⟨rfl, hb⟩; have n0_ := Aside0.mk (Kd.V_below (by (with_reducible repeat (first | apply Kd.V_alloc | apply Kd.V_drewN | apply Kd.V_drew)); exact HO_0.out) hb); have n1_ := Aside0.mk (below_step (by repeat (first | (with_reducible first | exact HB.out | apply below_alloc | apply pw_below_drewN | apply below_drew1) | exact HB.out)) hb); clear HO_0; clear HB; have HO_0 := n0_; have HB := n1_; clear n0_ n1_; (try clear hb); (try clear hb2); (try clear hk); (try clear hi)))
        repeat (go_quiet (first | (go_at_call 42; (with_reducible refine (plait_Arches.calls kj8 _ _ l0 t896 t897 _ ?side1 ?side2 A33.out).mono ?_); (case side1 => repeat (first | exact (Kd.V_reads' HO_0.out).2.2 | (with_reducible refine Kd.C_alloc ?_ _) | (with_reducible refine Kd.C_drewN ?_ _) | (with_reducible refine Kd.C_drew ?_))); (case side2 => exact (Kd.V_reads' HO_0.out).2.1); rintro e w86 ⟨rfl, hb⟩; have n0_ := Aside0.mk (Kd.V_below (by (with_reducible repeat (first | apply Kd.V_alloc | apply Kd.V_drewN | apply Kd.V_drew)); exact HO_0.out) hb); have n1_ := Aside0.mk (below_step (by repeat (first | (with_reducible first | exact HB.out | apply below_alloc | apply pw_below_drewN | apply below_drew1) | exact HB.out)) hb); clear HO_0; clear HB; have HO_0 := n0_; have HB := n1_; clear n0_ n1_; (try clear hb); (try clear hb2); (try clear hk); (try clear hi))); try go_wp2_with (first | (go_at_call 42; (with_reducible refine (plait_Arches.calls kj8 _ _ l0 t896 t897 _ ?side1 ?side2 A33.out).mono ?_); (case side1 => repeat (first | exact (Kd.V_reads' HO_0.out).2.2 | (with_reducible refine Kd.C_alloc ?_ _) | (with_reducible refine Kd.C_drewN ?_ _) | (with_reducible refine Kd.C_drew ?_))); (case side2 => exact (Kd.V_reads' HO_0.out).2.1); rintro e w86 ⟨rfl, hb⟩; have n0_ := Aside0.mk (Kd.V_below (by (with_reducible repeat (first | apply Kd.V_alloc | apply Kd.V_drewN | apply Kd.V_drew)); exact HO_0.out) hb); have n1_ := Aside0.mk (below_step (by repeat (first | (with_reducible first | exact HB.out | apply below_alloc | apply pw_below_drewN | apply below_drew1) | exact HB.out)) hb); clear HO_0; clear HB; have HO_0 := n0_; have HB := n1_; clear n0_ n1_; (try clear hb); (try clear hb2); (try clear hk); (try clear hi))))
        go_ret
        exact ⟨by first | rfl | (simp [errW_none, errW_some] <;> rfl) | (simp [*, errW_none, errW_some] <;> rfl), by repeat (first | (with_reducible first | exact HB.out | apply below_alloc | apply pw_below_drewN | apply below_drew1) | exact HB.out)⟩
/-- THE ONE PURE STATEMENT of pomadelaw07_PlaitBent: yours. -/
def pomadelaw07_PlaitBent.Pure : Prop := ∀ (l0 : List Int) (a1 : ByteArray), l0.length ≤ maxLen → l0.length * 8 ≤ 140737488351232 → (∀ x ∈ l0, (Lit.int .i64 x).wf = true) → a1.size ≤ 140737488351232 → ∃ k, pomadelaw07_PlaitBent.f k l0 a1 = some true
theorem pomadelaw07_PlaitBent.walk (P : pomadelaw07_PlaitBent.Pure) (a0 : Option Addr) (len0 cap0 : Nat) (z0 : List Int) (a1 : ByteArray) (w : World) (w0 : (a0 = none ∧ len0 = 0 ∧ cap0 = 0 ∧ z0 = []) ∨ ∃ x, a0 = some x ∧ len0 ≤ cap0 ∧ cap0 ≤ maxLen ∧ z0.length = cap0 ∧ (∀ i, i < z0.length → w.cell? (x.add i) = some (.int .i64 (z0.getD i 0))) ∧ ∀ n ∈ z0, (Lit.int .i64 n).wf = true) (y0 : len0 * 8 ≤ 140737488351232) (w1 : a1.size ≤ 140737488351232) :
  Calls Try.prog 18 #[.slice a0 len0 cap0, .string a1] w fun e w' => e = .returned (.bool true) ∧ Below w.heap.size w w' := by
 obtain ⟨l0, rfl, hr0, hm0, hw0, hc0⟩ := ReadsInt.ofRowC w0
 obtain ⟨k, h⟩ := P l0 a1 hm0 y0 hw0 w1
 refine (pomadelaw07_PlaitBent.calls k (fun k_ => k_ < w.heap.size) _ _ l0 a1 true w (Kd.V_mk hc0 (Kd.F_below (Kd.C_F (Kd.heap_int .i64) (Kd.C_of_reads (d := (0 : Int)) (h1 := fun _ => rfl) hr0)) (Below.refl _ _))) h).mono ?_
 rintro e w' ⟨rfl, hd⟩
 exact ⟨rfl, hd⟩
end Go.Proofs.Ytjfkompfkgjdaaa.PC
end
section
/- Gluing matchings: pairs of points joined one after another; ways, closed curves, order, names, crossings. Plain. -/
namespace Go.Proofs.Ytjfkompfkgjdaaa.G
def Inv2 (σ : Nat → Nat) : Prop := ∀ x, σ (σ x) = x
theorem Inv2.inj {σ : Nat → Nat} (h : Inv2 σ) {a b : Nat} (e : σ a = σ b) : a = b := by rw [← h a, e, h b]
def con (x y : Nat) (σ : Nat → Nat) (z : Nat) : Nat :=
  if z = x ∨ z = y then z else if z = σ x then σ y else if z = σ y then σ x else σ z
def lp (x y : Nat) (σ : Nat → Nat) : Nat := if σ x = y then 1 else 0
def glue : List (Nat × Nat) → (Nat → Nat) → (Nat → Nat) × Nat
  | [], σ => (σ, 0)
  | (x, y) :: l, σ => ((glue l (con x y σ)).1, (glue l (con x y σ)).2 + lp x y σ)
theorem con_inv {σ : Nat → Nat} {x y : Nat} (h : Inv2 σ) (hx : σ x ≠ x) (hy : σ y ≠ y) (hn : x ≠ y) : Inv2 (con x y σ) := by
  intro z
  have hi : ∀ a b, σ a = σ b → a = b := fun a b => h.inj
  have h1 := h x
  have h2 := h y
  have h3 := h z
  unfold con
  grind
theorem con_alive {σ : Nat → Nat} {x y z : Nat} (h : Inv2 σ) (hn : x ≠ y) (zx : z ≠ x) (zy : z ≠ y) (hz : σ z ≠ z) : con x y σ z ≠ z := by
  have hi : ∀ a b, σ a = σ b → a = b := fun a b => h.inj
  have h1 := h x
  have h2 := h y
  have h3 := h z
  unfold con
  grind
theorem con_dead {σ : Nat → Nat} {x y z : Nat} (h : Inv2 σ) (hx : σ x ≠ x) (hy : σ y ≠ y) (hz : σ z = z) : con x y σ z = z := by
  have h1 := h x
  have h2 := h y
  unfold con
  grind
set_option maxHeartbeats 4000000 in
theorem con_comm {σ : Nat → Nat} {x y u v : Nat} (h : Inv2 σ) (hx : σ x ≠ x) (hy : σ y ≠ y) (hu : σ u ≠ u) (hv : σ v ≠ v) (xy : x ≠ y) (uv : u ≠ v) (xu : x ≠ u) (xv : x ≠ v) (yu : y ≠ u) (yv : y ≠ v) (z : Nat) :
    con u v (con x y σ) z = con x y (con u v σ) z := by
  have hi : ∀ a b, σ a = σ b → a = b := fun a b => h.inj
  have h1 := h x
  have h2 := h y
  have h3 := h z
  have h4 := h u
  have h5 := h v
  unfold con
  grind (splits := 40)
theorem lp_comm {σ : Nat → Nat} {x y u v : Nat} (h : Inv2 σ) (hx : σ x ≠ x) (hy : σ y ≠ y) (hu : σ u ≠ u) (hv : σ v ≠ v) (xy : x ≠ y) (uv : u ≠ v) (xu : x ≠ u) (xv : x ≠ v) (yu : y ≠ u) (yv : y ≠ v) :
    lp u v (con x y σ) + lp x y σ = lp x y (con u v σ) + lp u v σ := by
  have hi : ∀ a b, σ a = σ b → a = b := fun a b => h.inj
  have h1 := h x
  have h2 := h y
  have h4 := h u
  have h5 := h v
  unfold lp con
  grind
/-- the partner by a list of pairs -/
def tau : List (Nat × Nat) → Nat → Nat
  | [], z => z
  | (x, y) :: l, z => if z = x then y else if z = y then x else tau l z
/-- a point of the pairs -/
def pts (l : List (Nat × Nat)) (z : Nat) : Prop := ∃ p ∈ l, z = p.1 ∨ z = p.2
/-- the pairs are of different points, all alive -/
def OK (σ : Nat → Nat) : List (Nat × Nat) → Prop
  | [] => True
  | (x, y) :: l => x ≠ y ∧ σ x ≠ x ∧ σ y ≠ y ∧ ¬ pts l x ∧ ¬ pts l y ∧ OK σ l
theorem pts_nil (z : Nat) : ¬ pts [] z := by rintro ⟨p, h, _⟩; simp at h
theorem pts_cons (x y : Nat) (l : List (Nat × Nat)) (z : Nat) : pts ((x, y) :: l) z ↔ z = x ∨ z = y ∨ pts l z := by
  constructor
  · rintro ⟨p, h, e⟩
    rcases List.mem_cons.1 h with rfl | h
    · rcases e with e | e
      · exact .inl e
      · exact .inr (.inl e)
    · exact .inr (.inr ⟨p, h, e⟩)
  · rintro (e | e | ⟨p, h, e⟩)
    · exact ⟨(x, y), List.mem_cons_self, .inl e⟩
    · exact ⟨(x, y), List.mem_cons_self, .inr e⟩
    · exact ⟨p, List.mem_cons_of_mem _ h, e⟩
theorem OK.alive {σ : Nat → Nat} {l : List (Nat × Nat)} (h : OK σ l) {z : Nat} (hz : pts l z) : σ z ≠ z := by
  induction l with
  | nil => exact absurd hz (pts_nil z)
  | cons p l ih =>
    obtain ⟨x, y⟩ := p
    obtain ⟨_, h1, h2, _, _, h3⟩ := h
    rcases (pts_cons _ _ _ _).1 hz with rfl | rfl | hz
    · exact h1
    · exact h2
    · exact ih h3 hz
theorem OK.con {σ : Nat → Nat} (hi : Inv2 σ) {x y : Nat} {l : List (Nat × Nat)} (xy : x ≠ y) (hx : ¬ pts l x) (hy : ¬ pts l y) (h : OK σ l) : OK (con x y σ) l := by
  induction l with
  | nil => trivial
  | cons p l ih =>
    obtain ⟨u, v⟩ := p
    obtain ⟨h0, h1, h2, h3, h4, h5⟩ := h
    simp only [pts_cons, not_or] at hx hy
    exact ⟨h0, con_alive hi xy (Ne.symm hx.1) (Ne.symm hy.1) h1, con_alive hi xy (Ne.symm hx.2.1) (Ne.symm hy.2.1) h2, h3, h4, ih hx.2.2 hy.2.2 h5⟩
theorem tau_fst (x y : Nat) (l : List (Nat × Nat)) : tau ((x, y) :: l) x = y := by simp [tau]
theorem tau_snd {x y : Nat} (l : List (Nat × Nat)) (h : x ≠ y) : tau ((x, y) :: l) y = x := by simp only [tau]; rw [if_neg (Ne.symm h)]; simp
theorem tau_out {σ : Nat → Nat} {l : List (Nat × Nat)} (h : OK σ l) {z : Nat} : tau l z = z ↔ ¬ pts l z := by
  induction l with
  | nil => simp [tau, pts_nil]
  | cons p l ih =>
    obtain ⟨x, y⟩ := p
    obtain ⟨h0, _, _, _, _, h5⟩ := h
    have := ih h5
    simp only [tau, pts_cons]
    grind
theorem tau_pts {σ : Nat → Nat} {l : List (Nat × Nat)} (h : OK σ l) {z : Nat} (hz : pts l z) : pts l (tau l z) := by
  induction l with
  | nil => exact absurd hz (pts_nil z)
  | cons p l ih =>
    obtain ⟨x, y⟩ := p
    obtain ⟨h0, _, _, h3, h4, h5⟩ := h
    have := ih h5
    simp only [tau, pts_cons] at hz ⊢
    grind
theorem tau_inv {σ : Nat → Nat} {l : List (Nat × Nat)} (h : OK σ l) : Inv2 (tau l) := by
  induction l with
  | nil => intro z; rfl
  | cons p l ih =>
    obtain ⟨x, y⟩ := p
    intro z
    obtain ⟨h0, _, _, h3, h4, h5⟩ := h
    have h6 := ih h5 z
    have h7 := @tau_pts _ _ h5 z
    have h8 := @tau_out _ _ h5 z
    simp only [tau]
    grind
/-! ### ways -/
inductive Path (σ : Nat → Nat) (l : List (Nat × Nat)) : Nat → Nat → Prop
  | out (p : Nat) : ¬ pts l (σ p) → Path σ l p (σ p)
  | via (p q : Nat) : pts l (σ p) → Path σ l (tau l (σ p)) q → Path σ l p q
theorem path_con {σ : Nat → Nat} (hi : Inv2 σ) {x y : Nat} {l : List (Nat × Nat)} (h : OK σ ((x, y) :: l)) {p q : Nat} (hp : Path σ ((x, y) :: l) p q) :
    (p ≠ x → p ≠ y → Path (con x y σ) l p q) ∧ (p = y → ∀ r, σ r = x → r ≠ x → r ≠ y → Path (con x y σ) l r q) ∧ (p = x → ∀ r, σ r = y → r ≠ x → r ≠ y → Path (con x y σ) l r q) := by
  have hk := h
  obtain ⟨h0, h1, h2, h3, h4, h5⟩ := h
  have e1 : ∀ r, r ≠ x → r ≠ y → σ r ≠ x → σ r ≠ y → con x y σ r = σ r := fun r a b c d => by
    have := hi r; have := hi x; have := hi y; unfold con; grind
  have e2 : ∀ r, r ≠ x → r ≠ y → σ r = x → con x y σ r = σ y := fun r a b c => by
    have := hi r; have := hi x; have := hi y; unfold con; grind
  have e3 : ∀ r, r ≠ x → r ≠ y → σ r = y → con x y σ r = σ x := fun r a b c => by
    have := hi r; have := hi x; have := hi y; unfold con; grind
  induction hp with
  | out p hn =>
    simp only [pts_cons, not_or] at hn
    refine ⟨fun a b => ?_, fun a r b c d => ?_, fun a r b c d => ?_⟩
    · have := e1 p a b hn.1 hn.2.1
      rw [← this]; exact .out _ (by rw [this]; exact hn.2.2)
    · subst a
      have := e2 r c d b
      rw [← this]; exact .out _ (by rw [this]; exact hn.2.2)
    · subst a
      have := e3 r c d b
      rw [← this]; exact .out _ (by rw [this]; exact hn.2.2)
  | via p q hn hp ih =>
    have inside : ∀ r, r ≠ x → r ≠ y → con x y σ r = σ p → σ p ≠ x → σ p ≠ y → Path (con x y σ) l r q := by
      intro r a b c d e
      have hl : pts l (σ p) := by
        rcases (pts_cons _ _ _ _).1 hn with f | f | f
        · exact absurd f d
        · exact absurd f e
        · exact f
      have ht : tau ((x, y) :: l) (σ p) = tau l (σ p) := by simp only [tau]; rw [if_neg d, if_neg e]
      have hw := tau_pts h5 hl
      rw [ht] at ih
      refine .via _ _ (by rw [c]; exact hl) ?_
      rw [c]
      exact ih.1 (fun f => h3 (f ▸ hw)) (fun f => h4 (f ▸ hw))
    refine ⟨fun a b => ?_, fun a r b c d => ?_, fun a r b c d => ?_⟩
    · by_cases ex : σ p = x
      · exact ih.2.1 (by rw [ex]; simp [tau]) p ex a b
      · by_cases ey : σ p = y
        · exact ih.2.2 (by rw [ey]; simp only [tau]; rw [if_neg (Ne.symm h0)]; simp) p ey a b
        · exact inside p a b (e1 p a b ex ey) ex ey
    · subst a
      refine inside r c d (e2 r c d b) (fun f => ?_) h2
      have := hi r; rw [b, ← f, hi p] at this; exact d this.symm
    · subst a
      refine inside r c d (e3 r c d b) h1 (fun f => ?_)
      have := hi r; rw [b, ← f, hi p] at this; exact c this.symm
theorem path_glue (l : List (Nat × Nat)) : ∀ (σ : Nat → Nat), Inv2 σ → OK σ l → ∀ {p q : Nat}, ¬ pts l p → Path σ l p q → (glue l σ).1 p = q := by
  induction l with
  | nil =>
    intro σ _ _ p q _ hp
    cases hp with
    | out _ _ => rfl
    | via _ _ h _ => exact absurd h (pts_nil _)
  | cons e l ih =>
    obtain ⟨x, y⟩ := e
    intro σ hi h p q hn hp
    simp only [pts_cons, not_or] at hn
    have h' := h
    obtain ⟨h0, h1, h2, h3, h4, h5⟩ := h'
    exact ih _ (con_inv hi h1 h2 h0) (h5.con hi h0 h3 h4) hn.2.2 ((path_con hi h hp).1 hn.1 hn.2.1)
/-! ### components -/
inductive Conn (σ τ : Nat → Nat) (x : Nat) : Nat → Prop
  | refl : Conn σ τ x x
  | s (y : Nat) : Conn σ τ x y → Conn σ τ x (σ y)
  | t (y : Nat) : Conn σ τ x y → Conn σ τ x (τ y)
theorem Conn.trans {σ τ : Nat → Nat} {x y z : Nat} (h : Conn σ τ x y) (k : Conn σ τ y z) : Conn σ τ x z := by
  induction k with
  | refl => exact h
  | s _ _ ih => exact .s _ ih
  | t _ _ ih => exact .t _ ih
theorem Conn.symm {σ τ : Nat → Nat} (hs : Inv2 σ) (ht : Inv2 τ) {x y : Nat} (h : Conn σ τ x y) : Conn σ τ y x := by
  induction h with
  | refl => exact .refl
  | s y _ ih => exact Conn.trans (by have := Conn.s (σ := σ) (τ := τ) (x := σ y) _ .refl; rwa [hs y] at this) ih
  | t y _ ih => exact Conn.trans (by have := Conn.t (σ := σ) (τ := τ) (x := τ y) _ .refl; rwa [ht y] at this) ih
theorem conn_con1 {σ : Nat → Nat} (hi : Inv2 σ) {x y : Nat} {l : List (Nat × Nat)} (h : OK σ ((x, y) :: l)) {u v : Nat} (ux : u ≠ x) (uy : u ≠ y) (hc : Conn (con x y σ) (tau l) u v) : v ≠ x ∧ v ≠ y ∧ Conn σ (tau ((x, y) :: l)) u v := by
  obtain ⟨h0, h1, h2, h3, h4, h5⟩ := h
  induction hc with
  | refl => exact ⟨ux, uy, .refl⟩
  | s v _ ih =>
    obtain ⟨a, b, c⟩ := ih
    have i1 := hi v
    have i2 := hi x
    have i3 := hi y
    have s1 := Conn.s (x := u) _ c
    by_cases e : v = σ x
    · have s2 : Conn σ (tau ((x, y) :: l)) u y := by
        have := Conn.t _ s1; rw [e, i2, tau_fst] at this; exact this
      have : con x y σ v = σ y := by unfold con; grind
      rw [this]; exact ⟨by grind, by grind, .s _ s2⟩
    · by_cases e' : v = σ y
      · have s2 : Conn σ (tau ((x, y) :: l)) u x := by
          have := Conn.t _ s1; rw [e', i3, tau_snd _ h0] at this; exact this
        have : con x y σ v = σ x := by unfold con; grind
        rw [this]; exact ⟨by grind, by grind, .s _ s2⟩
      · have : con x y σ v = σ v := by unfold con; grind
        rw [this]; exact ⟨by grind, by grind, s1⟩
  | t v _ ih =>
    obtain ⟨a, b, c⟩ := ih
    have s1 := Conn.t _ c
    have e : tau ((x, y) :: l) v = tau l v := by simp only [tau]; rw [if_neg a, if_neg b]
    rw [e] at s1
    have k1 := @tau_out _ _ h5 v
    have k2 := @tau_pts _ _ h5 v
    exact ⟨by grind, by grind, s1⟩
theorem conn_con2 {σ : Nat → Nat} (hi : Inv2 σ) {x y : Nat} {l : List (Nat × Nat)} (h : OK σ ((x, y) :: l)) {u v : Nat} (ux : u ≠ x) (uy : u ≠ y) (hc : Conn σ (tau ((x, y) :: l)) u v) : (v ≠ x → v ≠ y → Conn (con x y σ) (tau l) u v) ∧ (v = x ∨ v = y → σ v ≠ x ∧ σ v ≠ y ∧ Conn (con x y σ) (tau l) u (σ v)) := by
  obtain ⟨h0, h1, h2, h3, h4, h5⟩ := h
  have i2 := hi x
  have i3 := hi y
  induction hc with
  | refl => exact ⟨fun _ _ => .refl, fun e => by rcases e with e | e; exact absurd e ux; exact absurd e uy⟩
  | s v _ ih =>
    have i1 := hi v
    by_cases a : v = x ∨ v = y
    · obtain ⟨b, c, d⟩ := ih.2 a
      exact ⟨fun _ _ => d, fun e => by grind⟩
    · have a1 : v ≠ x := fun e => a (.inl e)
      have a2 : v ≠ y := fun e => a (.inr e)
      have d := ih.1 a1 a2
      refine ⟨fun e f => ?_, fun e => by rw [i1]; exact ⟨a1, a2, d⟩⟩
      have := Conn.s _ d
      have g : con x y σ v = σ v := by unfold con; grind
      rwa [g] at this
  | t v _ ih =>
    by_cases a : v = x ∨ v = y
    · obtain ⟨b, c, d⟩ := ih.2 a
      have := Conn.s _ d
      refine ⟨fun e f => ?_, fun e => ?_⟩
      · rcases a with a | a <;> subst a <;> simp only [tau] at e f <;> grind
      · rcases a with a | a
        · subst a
          have g : con v y σ (σ v) = σ y := by unfold con; grind
          have k : tau ((v, y) :: l) v = y := by simp [tau]
          rw [k]; rw [g] at this
          exact ⟨by grind, by grind, this⟩
        · subst a
          have g : con x v σ (σ v) = σ x := by unfold con; grind
          have k : tau ((x, v) :: l) v = x := by simp only [tau]; rw [if_neg (Ne.symm h0)]; simp
          rw [k]; rw [g] at this
          exact ⟨by grind, by grind, this⟩
    · have a1 : v ≠ x := fun e => a (.inl e)
      have a2 : v ≠ y := fun e => a (.inr e)
      have d := Conn.t _ (ih.1 a1 a2)
      have e : tau ((x, y) :: l) v = tau l v := by simp only [tau]; rw [if_neg a1, if_neg a2]
      have k1 := @tau_out _ _ h5 v
      have k2 := @tau_pts _ _ h5 v
      rw [e]
      exact ⟨fun _ _ => d, fun f => by grind⟩
/-! ### how many loops -/
def prs (f g : Nat → Nat) : Nat → List (Nat × Nat)
  | 0 => []
  | k + 1 => (f k, g k) :: prs f g k
theorem pts_prs (f g : Nat → Nat) (k z : Nat) : pts (prs f g k) z ↔ ∃ i, i < k ∧ (z = f i ∨ z = g i) := by
  induction k with
  | zero => simp [prs, pts_nil]
  | succ k ih =>
    simp only [prs, pts_cons, ih]
    constructor
    · rintro (e | e | ⟨i, h, e⟩)
      · exact ⟨k, by omega, .inl e⟩
      · exact ⟨k, by omega, .inr e⟩
      · exact ⟨i, by omega, e⟩
    · rintro ⟨i, h, e⟩
      by_cases c : i = k
      · subst c
        rcases e with e | e
        · exact .inl e
        · exact .inr (.inl e)
      · exact .inr (.inr ⟨i, by omega, e⟩)
open Classical in
/-- how many below k -/
noncomputable def cntP (P : Nat → Prop) : Nat → Nat
  | 0 => 0
  | k + 1 => cntP P k + if P k then 1 else 0
theorem cntP_congr {P Q : Nat → Prop} (k : Nat) (h : ∀ i, i < k → (P i ↔ Q i)) : cntP P k = cntP Q k := by
  induction k with
  | zero => rfl
  | succ k ih =>
    simp only [cntP]
    rw [ih (fun i hi => h i (by omega))]
    have := h k (by omega)
    by_cases c : P k
    · rw [if_pos c, if_pos (this.1 c)]
    · rw [if_neg c, if_neg (fun d => c (this.2 d))]
theorem cntP_le (P : Nat → Prop) (k : Nat) : cntP P k ≤ k := by
  induction k with
  | zero => exact Nat.le_refl _
  | succ k ih => simp only [cntP]; split <;> omega
/-- pair j is the first of its closed curve -/
def Mn (f g : Nat → Nat) (k : Nat) (σ : Nat → Nat) (j : Nat) : Prop := ∀ z, Conn σ (tau (prs f g k)) (f j) z → ∃ i, j ≤ i ∧ i < k ∧ (z = f i ∨ z = g i)
theorem mn_con {f g : Nat → Nat} {k : Nat} {σ : Nat → Nat} (hi : Inv2 σ) (h : OK σ (prs f g (k + 1))) {j : Nat} (hj : j < k) : Mn f g (k + 1) σ j ↔ Mn f g k (con (f k) (g k) σ) j := by
  have h' := h
  obtain ⟨h0, h1, h2, h3, h4, h5⟩ := h'
  have fx : f j ≠ f k := fun e => h3 ((pts_prs _ _ _ _).2 ⟨j, hj, .inl e.symm⟩)
  have fy : f j ≠ g k := fun e => h4 ((pts_prs _ _ _ _).2 ⟨j, hj, .inl e.symm⟩)
  constructor
  · intro m z hz
    obtain ⟨zx, zy, hz⟩ := conn_con1 hi h fx fy hz
    obtain ⟨i, a, b, c⟩ := m z hz
    exact ⟨i, a, by grind, c⟩
  · intro m z hz
    by_cases e : z = f k ∨ z = g k
    · exact ⟨k, by omega, by omega, e⟩
    · obtain ⟨i, a, b, c⟩ := m z ((conn_con2 hi h fx fy hz).1 (fun q => e (.inl q)) (fun q => e (.inr q)))
      exact ⟨i, a, by omega, c⟩
theorem mn_self {f g : Nat → Nat} {k : Nat} {σ : Nat → Nat} (hi : Inv2 σ) (h : OK σ (prs f g (k + 1))) : Mn f g (k + 1) σ k ↔ σ (f k) = g k := by
  obtain ⟨h0, h1, h2, h3, h4, h5⟩ := h
  constructor
  · intro m
    obtain ⟨i, a, b, c⟩ := m _ (.s _ .refl)
    have : i = k := by omega
    subst this
    rcases c with c | c
    · exact absurd c h1
    · exact c
  · intro e z hz
    have e2 : σ (g k) = f k := by rw [← e, hi]
    refine ⟨k, by omega, by omega, ?_⟩
    induction hz with
    | refl => exact .inl rfl
    | s v _ ih => rcases ih with rfl | rfl
                  · exact .inr e
                  · exact .inl e2
    | t v _ ih => rcases ih with rfl | rfl
                  · exact .inr (tau_fst _ _ _)
                  · exact .inl (tau_snd _ h0)
theorem glue_count (f g : Nat → Nat) (k : Nat) : ∀ σ : Nat → Nat, Inv2 σ → OK σ (prs f g k) → (glue (prs f g k) σ).2 = cntP (Mn f g k σ) k := by
  induction k with
  | zero => intro σ _ _; rfl
  | succ k ih =>
    intro σ hi h
    have h' := h
    obtain ⟨h0, h1, h2, h3, h4, h5⟩ := h'
    have e := ih _ (con_inv hi h1 h2 h0) (h5.con hi h0 h3 h4)
    simp only [prs, glue, cntP]
    rw [e, cntP_congr k (fun i hik => (mn_con hi h hik).symm)]
    congr 1
    unfold lp
    by_cases c : σ (f k) = g k
    · rw [if_pos c, if_pos ((mn_self hi h).2 c)]
    · rw [if_neg c, if_neg (fun d => c ((mn_self hi h).1 d))]
/-! ### the order of the pairs -/
theorem glue_perm {l l' : List (Nat × Nat)} (hp : l.Perm l') : ∀ σ : Nat → Nat, Inv2 σ → OK σ l → glue l σ = glue l' σ ∧ OK σ l' := by
  have pp : ∀ {a b : List (Nat × Nat)}, a.Perm b → ∀ z, pts a z ↔ pts b z := fun h z => by
    unfold pts
    constructor
    · rintro ⟨p, m, e⟩; exact ⟨p, h.mem_iff.1 m, e⟩
    · rintro ⟨p, m, e⟩; exact ⟨p, h.mem_iff.2 m, e⟩
  induction hp with
  | nil => intro σ _ h; exact ⟨rfl, h⟩
  | cons p hp ih =>
    intro σ hi h
    obtain ⟨x, y⟩ := p
    obtain ⟨h0, h1, h2, h3, h4, h5⟩ := h
    obtain ⟨e, _⟩ := ih _ (con_inv hi h1 h2 h0) (h5.con hi h0 h3 h4)
    obtain ⟨_, k⟩ := ih σ hi h5
    refine ⟨by simp only [glue]; rw [e], h0, h1, h2, fun d => h3 ((pp hp _).2 d), fun d => h4 ((pp hp _).2 d), k⟩
  | swap p q l =>
    intro σ hi h
    obtain ⟨u, v⟩ := p
    obtain ⟨x, y⟩ := q
    obtain ⟨h0, h1, h2, h3, h4, k0, k1, k2, k3, k4, k5⟩ := h
    simp only [pts_cons, not_or] at h3 h4
    have e1 := lp_comm hi h1 h2 k1 k2 h0 k0 h3.1 h3.2.1 h4.1 h4.2.1
    have e2 : con x y (con u v σ) = con u v (con x y σ) := funext fun z => (con_comm hi h1 h2 k1 k2 h0 k0 h3.1 h3.2.1 h4.1 h4.2.1 z).symm
    refine ⟨?_, k0, k1, k2, ?_, ?_, h0, h1, h2, h3.2.2, h4.2.2, k5⟩
    · simp only [glue]
      rw [e2]
      congr 1
      omega
    · simp only [pts_cons, not_or]; exact ⟨Ne.symm h3.1, Ne.symm h4.1, k3⟩
    · simp only [pts_cons, not_or]; exact ⟨Ne.symm h3.2.1, Ne.symm h4.2.1, k4⟩
  | trans _ _ ih1 ih2 =>
    intro σ hi h
    obtain ⟨e1, k1⟩ := ih1 σ hi h
    obtain ⟨e2, k2⟩ := ih2 σ hi k1
    exact ⟨e1.trans e2, k2⟩
theorem glue_app (l l' : List (Nat × Nat)) : ∀ σ : Nat → Nat, glue (l ++ l') σ = ((glue l' (glue l σ).1).1, (glue l' (glue l σ).1).2 + (glue l σ).2) := by
  induction l with
  | nil => intro σ; simp [glue]
  | cons p l ih =>
    obtain ⟨x, y⟩ := p
    intro σ
    simp only [List.cons_append, glue, ih]
    congr 1
    omega
theorem glue_inv (l : List (Nat × Nat)) : ∀ σ : Nat → Nat, Inv2 σ → OK σ l → Inv2 (glue l σ).1 := by
  induction l with
  | nil => intro σ h _; exact h
  | cons p l ih =>
    obtain ⟨x, y⟩ := p
    intro σ hi h
    obtain ⟨h0, h1, h2, h3, h4, h5⟩ := h
    exact ih _ (con_inv hi h1 h2 h0) (h5.con hi h0 h3 h4)
theorem glue_alive (l : List (Nat × Nat)) : ∀ σ : Nat → Nat, Inv2 σ → OK σ l → ∀ z, ¬ pts l z → σ z ≠ z → (glue l σ).1 z ≠ z := by
  induction l with
  | nil => intro σ _ _ z _ h; exact h
  | cons p l ih =>
    obtain ⟨x, y⟩ := p
    intro σ hi h z hz hs
    obtain ⟨h0, h1, h2, h3, h4, h5⟩ := h
    simp only [pts_cons, not_or] at hz
    exact ih _ (con_inv hi h1 h2 h0) (h5.con hi h0 h3 h4) z hz.2.2 (con_alive hi h0 hz.1 hz.2.1 hs)
theorem con_dead2 {σ : Nat → Nat} {x y z : Nat} (hz : z = x ∨ z = y) : con x y σ z = z := by unfold con; rw [if_pos hz]
theorem glue_dead (l : List (Nat × Nat)) : ∀ σ : Nat → Nat, Inv2 σ → OK σ l → ∀ z, pts l z ∨ σ z = z → (glue l σ).1 z = z := by
  induction l with
  | nil => intro σ _ _ z h; exact h.resolve_left (pts_nil z)
  | cons p l ih =>
    obtain ⟨x, y⟩ := p
    intro σ hi h z hz
    obtain ⟨h0, h1, h2, h3, h4, h5⟩ := h
    refine ih _ (con_inv hi h1 h2 h0) (h5.con hi h0 h3 h4) z ?_
    rcases hz with hz | hz
    · rcases (pts_cons _ _ _ _).1 hz with e | e | e
      · exact .inr (con_dead2 (.inl e))
      · exact .inr (con_dead2 (.inr e))
      · exact .inl e
    · exact .inr (con_dead hi h1 h2 hz)
/-! ### other names -/
/-- σ does with the new names what a does with the old ones below N -/
def Emb (N : Nat) (F a σ : Nat → Nat) : Prop := ∀ z, z < N → a z < N ∧ σ (F z) = F (a z)
theorem con_emb {N : Nat} {F a σ : Nat → Nat} (hF : ∀ u v, u < N → v < N → F u = F v → u = v) (h : Emb N F a σ) {x y : Nat} (hx : x < N) (hy : y < N) : Emb N F (con x y a) (con (F x) (F y) σ) ∧ lp (F x) (F y) σ = lp x y a := by
  have i : ∀ u v, u < N → v < N → (F u = F v ↔ u = v) := fun u v hu hv => ⟨hF u v hu hv, fun e => by rw [e]⟩
  have hxx := h x hx
  have hyy := h y hy
  constructor
  · intro z hz
    have hzz := h z hz
    unfold con
    rw [hxx.2, hyy.2, hzz.2]
    simp only [i z x hz hx, i z y hz hy, i z (a x) hz hxx.1, i z (a y) hz hyy.1]
    grind
  · unfold lp
    rw [hxx.2]
    simp only [i _ y hxx.1 hy]
theorem con_off {σ : Nat → Nat} {x y z : Nat} (h1 : z ≠ x) (h2 : z ≠ y) (h3 : z ≠ σ x) (h4 : z ≠ σ y) : con x y σ z = σ z := by unfold con; grind
theorem glue_emb {N : Nat} {F : Nat → Nat} (hF : ∀ u v, u < N → v < N → F u = F v → u = v) (l : List (Nat × Nat)) : ∀ {a σ : Nat → Nat}, Emb N F a σ → (∀ p ∈ l, p.1 < N ∧ p.2 < N) → Emb N F (glue l a).1 (glue (l.map (fun p => (F p.1, F p.2))) σ).1 ∧ (glue (l.map (fun p => (F p.1, F p.2))) σ).2 = (glue l a).2 := by
  induction l with
  | nil => intro a σ h _; exact ⟨h, rfl⟩
  | cons p l ih =>
    obtain ⟨x, y⟩ := p
    intro a σ h hl
    have hxy := hl (x, y) List.mem_cons_self
    obtain ⟨h1, h2⟩ := con_emb hF h hxy.1 hxy.2
    obtain ⟨h3, h4⟩ := ih h1 (fun p hp => hl p (List.mem_cons_of_mem _ hp))
    simp only [List.map_cons, glue]
    exact ⟨h3, by rw [h4, h2]⟩
/-- what lies apart stays as it is -/
theorem glue_off (D : Nat → Prop) (l : List (Nat × Nat)) : ∀ {σ : Nat → Nat}, (∀ z, D z → D (σ z)) → Inv2 σ → OK σ l → (∀ p ∈ l, ¬ D p.1 ∧ ¬ D p.2) → ∀ z, D z → (glue l σ).1 z = σ z := by
  induction l with
  | nil => intro σ _ _ _ _ z _; rfl
  | cons p l ih =>
    obtain ⟨x, y⟩ := p
    intro σ hD hi h hl z hz
    obtain ⟨h0, h1, h2, h3, h4, h5⟩ := h
    have hxy := hl (x, y) List.mem_cons_self
    have e : ∀ z, D z → con x y σ z = σ z := fun z hz => by
      refine con_off (fun e => hxy.1 (e ▸ hz)) (fun e => hxy.2 (e ▸ hz)) (fun e => hxy.1 ?_) (fun e => hxy.2 ?_)
      · have := hD z hz; rw [e, hi] at this; exact this
      · have := hD z hz; rw [e, hi] at this; exact this
    simp only [glue]
    rw [ih (fun z hz => by rw [e z hz]; exact hD z hz) (con_inv hi h1 h2 h0) (h5.con hi h0 h3 h4) (fun p hp => hl p (List.mem_cons_of_mem _ hp)) z hz, e z hz]
theorem con_swap {σ : Nat → Nat} (x y : Nat) (hi : Inv2 σ) (xy : x ≠ y) : con x y σ = con y x σ ∧ lp x y σ = lp y x σ := by
  have h1 := hi x
  have h2 := hi y
  have hj : ∀ a b, σ a = σ b → a = b := fun a b => hi.inj
  constructor
  · funext z; unfold con; grind
  · unfold lp; grind
/-! ### without crossings -/
/-- do the pairs u v and p q cross, on a line -/
def crs (ps : Nat → Nat) (u v p q : Nat) : Bool := (decide (ps p < ps u) ^^ decide (ps q < ps u)) ^^ (decide (ps p < ps v) ^^ decide (ps q < ps v))
def NC (ps σ : Nat → Nat) : Prop := ∀ u p, σ u ≠ u → σ p ≠ p → p ≠ u → p ≠ σ u → crs ps u (σ u) p (σ p) = false
theorem crs_swap (ps : Nat → Nat) (u v p q : Nat) (h1 : ps u ≠ ps p) (h2 : ps u ≠ ps q) (h3 : ps v ≠ ps p) (h4 : ps v ≠ ps q) : crs ps u v p q = crs ps p q u v := by
  have e : ∀ a b, ps a ≠ ps b → decide (ps b < ps a) = !decide (ps a < ps b) := fun a b h => by
    by_cases c : ps a < ps b
    · rw [decide_eq_true c, decide_eq_false (by omega)]; rfl
    · rw [decide_eq_false c, decide_eq_true (by omega)]; rfl
  unfold crs
  rw [e u p h1, e u q h2, e v p h3, e v q h4]
  cases decide (ps u < ps p) <;> cases decide (ps u < ps q) <;> cases decide (ps v < ps p) <;> cases decide (ps v < ps q) <;> rfl
theorem xor6 : ∀ y1 x1 z1 y2 x2 z2 : Bool, ((y1 ^^ x1) ^^ (y2 ^^ x2)) = false → ((y1 ^^ z1) ^^ (y2 ^^ z2)) = false → ((x1 ^^ z1) ^^ (x2 ^^ z2)) = false := by decide
theorem xor4 : ∀ x1 z1 x2 z2 : Bool, ((x1 ^^ z1) ^^ (x2 ^^ z2)) = false → ((z1 ^^ x1) ^^ (z2 ^^ x2)) = false := by decide
theorem con_nc {ps σ : Nat → Nat} {x y : Nat} (hi : Inv2 σ) (hx : σ x ≠ x) (hy : σ y ≠ y) (xy : x ≠ y) (hps : ∀ u v, σ u ≠ u → σ v ≠ v → ps u = ps v → u = v) (h : NC ps σ) (ha : ∀ z, σ z ≠ z → z ≠ x → z ≠ y → (ps x < ps z ↔ ps y < ps z)) : NC ps (con x y σ) := by
  have i1 := hi x
  have i2 := hi y
  have hj : ∀ a b, σ a = σ b → a = b := fun a b => hi.inj
  have key : ∀ u, σ u ≠ u → u ≠ x → u ≠ y → σ u ≠ x → σ u ≠ y → σ x ≠ y → crs ps u (σ u) (σ x) (σ y) = false := by
    intro u hu ux uy vx vy xy'
    have a1 := ha u hu ux uy
    have a2 := ha (σ u) (by rw [hi u]; exact Ne.symm hu) vx vy
    have n1 := h u x hu hx (Ne.symm ux) (Ne.symm vx)
    have n2 := h u y hu hy (Ne.symm uy) (Ne.symm vy)
    unfold crs at n1 n2 ⊢
    rw [decide_eq_decide.2 a1, decide_eq_decide.2 a2] at n1
    exact xor6 _ _ _ _ _ _ n1 n2
  have key2 : ∀ u, σ u ≠ u → u ≠ x → u ≠ y → σ u ≠ x → σ u ≠ y → σ x ≠ y → crs ps u (σ u) (σ y) (σ x) = false := by
    intro u a b c d e f
    have := key u a b c d e f
    unfold crs at this ⊢
    exact xor4 _ _ _ _ this
  have sw : ∀ u p q, σ u ≠ u → σ p ≠ p → σ q ≠ q → u ≠ p → u ≠ q → σ u ≠ p → σ u ≠ q → crs ps u (σ u) p q = false → crs ps p q u (σ u) = false := by
    intro u p q hu hp hq a b c d e
    have hu' : σ (σ u) ≠ σ u := by rw [hi u]; exact Ne.symm hu
    rw [← crs_swap ps u (σ u) p q (fun f => a (hps _ _ hu hp f)) (fun f => b (hps _ _ hu hq f)) (fun f => c (hps _ _ hu' hp f)) (fun f => d (hps _ _ hu' hq f))]
    exact e
  intro u p hu hp pu pv
  have hsx : σ (σ x) ≠ σ x := by rw [i1]; exact Ne.symm hx
  have hsy : σ (σ y) ≠ σ y := by rw [i2]; exact Ne.symm hy
  have dead : ∀ z, con x y σ z ≠ z → z ≠ x ∧ z ≠ y ∧ σ z ≠ z := by
    intro z hz; unfold con at hz; grind
  obtain ⟨ux, uy, hu'⟩ := dead u hu
  obtain ⟨px, py, hp'⟩ := dead p hp
  have val : ∀ z, z ≠ x → z ≠ y → (z = σ x ∧ con x y σ z = σ y) ∨ (z = σ y ∧ z ≠ σ x ∧ con x y σ z = σ x) ∨ (z ≠ σ x ∧ z ≠ σ y ∧ con x y σ z = σ z) := by
    intro z a b; unfold con; grind
  have iu := hi u
  have ip := hi p
  rcases val u ux uy with ⟨eu, cu⟩ | ⟨eu, eu2, cu⟩ | ⟨eu, eu2, cu⟩
  · rcases val p px py with ⟨ep, cp⟩ | ⟨ep, ep2, cp⟩ | ⟨ep, ep2, cp⟩
    · exact absurd (ep.trans eu.symm) pu
    · exact absurd (ep.trans cu.symm) pv
    · rw [cu, cp, eu]
      refine sw p (σ x) (σ y) hp' hsx hsy ep ep2 (fun e => ?_) (fun e => ?_) (key p hp' px py (fun e => ?_) (fun e => ?_) (fun e => ?_)) <;> grind
  · rcases val p px py with ⟨ep, cp⟩ | ⟨ep, ep2, cp⟩ | ⟨ep, ep2, cp⟩
    · exact absurd (ep.trans cu.symm) pv
    · exact absurd (ep.trans eu.symm) pu
    · rw [cu, cp, eu]
      refine sw p (σ y) (σ x) hp' hsy hsx ep2 ep (fun e => ?_) (fun e => ?_) (key2 p hp' px py (fun e => ?_) (fun e => ?_) (fun e => ?_)) <;> grind
  · rcases val p px py with ⟨ep, cp⟩ | ⟨ep, ep2, cp⟩ | ⟨ep, ep2, cp⟩
    · rw [cu, cp, ep]
      refine key u hu' ux uy (fun e => ?_) (fun e => ?_) (fun e => ?_) <;> grind
    · rw [cu, cp, ep]
      refine key2 u hu' ux uy (fun e => ?_) (fun e => ?_) (fun e => ?_) <;> grind
    · rw [cu, cp]
      rw [cu] at pv
      exact h u p hu' hp' pu pv
/-- each pair lies next to each other, when its turn comes -/
def Adjs (ps : Nat → Nat) : List (Nat × Nat) → (Nat → Nat) → Prop
  | [], _ => True
  | (x, y) :: l, σ => (∀ z, σ z ≠ z → z ≠ x → z ≠ y → (ps x < ps z ↔ ps y < ps z)) ∧ Adjs ps l (con x y σ)
theorem glue_nc {ps : Nat → Nat} (l : List (Nat × Nat)) : ∀ {σ : Nat → Nat}, Inv2 σ → OK σ l → (∀ u v, σ u ≠ u → σ v ≠ v → ps u = ps v → u = v) → NC ps σ → Adjs ps l σ → NC ps (glue l σ).1 := by
  induction l with
  | nil => intro σ _ _ _ h _; exact h
  | cons p l ih =>
    obtain ⟨x, y⟩ := p
    intro σ hi h hps hn ha
    obtain ⟨h0, h1, h2, h3, h4, h5⟩ := h
    have dead : ∀ z, con x y σ z ≠ z → σ z ≠ z := by
      intro z hz e; exact hz (con_dead hi h1 h2 e)
    exact ih (con_inv hi h1 h2 h0) (h5.con hi h0 h3 h4) (fun u v a b => hps u v (dead u a) (dead v b)) (con_nc hi h1 h2 h0 hps hn ha.1) ha.2
/-! ### the pigeon-hole -/
theorem pigeon : ∀ (n : Nat) (f : Nat → Nat), (∀ i, i ≤ n → f i < n) → ∃ i j, i < j ∧ j ≤ n ∧ f i = f j := by
  intro n
  induction n with
  | zero => intro f h; have := h 0 (Nat.le_refl _); omega
  | succ n ih =>
    intro f h
    by_cases c : ∃ i, i ≤ n ∧ f i = f (n + 1)
    · obtain ⟨i, a, b⟩ := c; exact ⟨i, n + 1, by omega, Nat.le_refl _, b⟩
    · obtain ⟨i, j, a, b, e⟩ := ih (fun i => if f i = n then f (n + 1) else f i) (fun i hi => by
        have h1 := h i (by omega)
        have h2 := h (n + 1) (Nat.le_refl _)
        show (if f i = n then f (n + 1) else f i) < n
        by_cases d : f i = n
        · rw [if_pos d]
          have : f (n + 1) ≠ n := fun e => c ⟨i, hi, by rw [d, e]⟩
          omega
        · rw [if_neg d]; omega)
      refine ⟨i, j, a, by omega, ?_⟩
      have e : (if f i = n then f (n + 1) else f i) = if f j = n then f (n + 1) else f j := e
      by_cases d1 : f i = n <;> by_cases d2 : f j = n
      · rw [d1, d2]
      · rw [if_pos d1, if_neg d2] at e; exact absurd ⟨j, b, e.symm⟩ c
      · rw [if_neg d1, if_pos d2] at e; exact absurd ⟨i, by omega, e⟩ c
      · rw [if_neg d1, if_neg d2] at e; exact e
/-- the same number of times -/
def itr (f : Nat → Nat) : Nat → Nat → Nat
  | 0, z => z
  | k + 1, z => itr f k (f z)
theorem itr_succ (f : Nat → Nat) (k : Nat) : ∀ z, itr f (k + 1) z = f (itr f k z) := by
  induction k with
  | zero => intro z; rfl
  | succ k ih => intro z; rw [itr, ih (f z)]; rfl
/-- a walk that begins outside of a set of N points, by steps that lead no two points to one, does not stay in it -/
theorem leaves {f : Nat → Nat} (hf : ∀ a b, f a = f b → a = b) (S : Nat → Prop) (c : Nat → Nat) (N : Nat) (hc : ∀ z, S z → c z < N) (hci : ∀ u v, S u → S v → c u = c v → u = v) (p : Nat) (hp : ¬ S p) : ∃ k, k ≤ N ∧ ¬ S (itr f (k + 1) p) ∧ ∀ i, i < k → S (itr f (i + 1) p) := by
  have h : ∃ k, k ≤ N ∧ ¬ S (itr f (k + 1) p) := by
    refine Classical.byContradiction fun hn => ?_
    have hS : ∀ i, i ≤ N → S (itr f (i + 1) p) := fun i hi => Classical.byContradiction fun h => hn ⟨i, hi, h⟩
    obtain ⟨i, j, a, b, e⟩ := pigeon N (fun i => c (itr f (i + 1) p)) (fun i hi => hc _ (hS i hi))
    have e := hci _ _ (hS i (by omega)) (hS j b) e
    have back : ∀ k, itr f k p = itr f (j - i + k) p → p = itr f (j - i) p := by
      intro k
      induction k with
      | zero => intro h; exact h
      | succ k ih => intro h; rw [itr_succ, show j - i + (k + 1) = (j - i + k) + 1 by omega, itr_succ] at h; exact ih (hf _ _ h)
    have e2 := back (i + 1) (by rw [show j - i + (i + 1) = j + 1 by omega]; exact e)
    refine hp ?_
    rw [e2]
    have := hS (j - i - 1) (by omega)
    rwa [show j - i - 1 + 1 = j - i by omega] at this
  obtain ⟨k, h1, h2⟩ := h
  clear hc hci hf
  induction k using Nat.strongRecOn with
  | ind k ih =>
    by_cases c2 : ∃ i, i < k ∧ ¬ S (itr f (i + 1) p)
    · obtain ⟨i, a, b⟩ := c2; exact ih i a (by omega) b
    · exact ⟨k, h1, h2, fun i hi => Classical.byContradiction fun h => c2 ⟨i, hi, h⟩⟩
end Go.Proofs.Ytjfkompfkgjdaaa.G
end
section
/- Orbits of two pairings, and the points on ways: plain. -/
namespace Go.Proofs.Ytjfkompfkgjdaaa.G
/-! ### round and round -/
/-- A pairs the indices of U -/
structure Pairs (U : Nat → Prop) (A : Nat → Nat) : Prop where
  mem : ∀ m, U m → U (A m)
  ne : ∀ m, U m → A m ≠ m
  inv : ∀ m, U m → A (A m) = m
structure Rd (U : Nat → Prop) (A B : Nat → Nat) (T M : Nat → Prop) (i c : Nat) : Prop where
  ui : U i
  uc : U c
  sub : ∀ m, U m → T m → M m
  cA : ∀ m, U m → M m → M (A m)
  cB : ∀ m, U m → M m → m ≠ i → m ≠ B c → M (B m) ∧ B m ≠ i ∧ B m ≠ B c
  st : (c = i ∧ ¬ M i ∧ ¬ M (B i)) ∨ (M i ∧ M (B c) ∧ B c ≠ i)
  low : ∀ m, U m → M m → T m ∨ Conn A B i m
  cc : Conn A B i c
theorem Rd.start {U : Nat → Prop} {A B : Nat → Nat} {T : Nat → Prop} (hA : Pairs U A) (hB : Pairs U B) (tA : ∀ m, U m → T m → T (A m)) (tB : ∀ m, U m → T m → T (B m)) {i : Nat} (ui : U i) (hi : ¬ T i) : Rd U A B T T i i := by
  refine ⟨ui, ui, fun _ _ h => h, tA, fun m um h mi mb => ⟨tB m um h, fun e => ?_, fun e => ?_⟩, .inl ⟨rfl, hi, fun e => hi (by have := tB _ (hB.mem i ui) e; rwa [hB.inv i ui] at this)⟩, fun _ _ h => .inl h, .refl⟩
  · exact hi (e ▸ tB m um h)
  · have h1 := hB.inv m um
    rw [e, hB.inv i ui] at h1
    exact mi h1.symm
theorem Rd.step {U : Nat → Prop} {A B : Nat → Nat} {T M M' : Nat → Prop} {i c : Nat} (hA : Pairs U A) (hB : Pairs U B) (h : Rd U A B T M i c) (hc : ¬ M c) (hM : ∀ m, U m → (M' m ↔ M m ∨ m = c ∨ m = A c)) : Rd U A B T M' i (B (A c)) := by
  have uAc := hA.mem c h.uc
  have uBc := hB.mem c h.uc
  have a1 : ¬ M (A c) := fun e => hc (by have := h.cA _ uAc e; rwa [hA.inv c h.uc] at this)
  have a2 := hA.inv c h.uc
  have a3 := hA.ne c h.uc
  have b1 := hB.inv c h.uc
  have b2 := hB.inv (A c) uAc
  have nAi : A c ≠ i := by
    rcases h.st with ⟨e, _⟩ | ⟨e, _, _⟩
    · exact fun f => a3 (f.trans e.symm)
    · exact fun f => a1 (f ▸ e)
  refine ⟨h.ui, hB.mem _ uAc, fun m um t => (hM m um).2 (.inl (h.sub m um t)), fun m um hm => ?_, fun m um hm mi mb => ?_, .inr ⟨?_, ?_, ?_⟩, fun m um hm => ?_, ?_⟩
  · refine (hM _ (hA.mem m um)).2 ?_
    rcases (hM m um).1 hm with e | e | e
    · exact .inl (h.cA m um e)
    · exact .inr (.inr (by rw [e]))
    · exact .inr (.inl (by rw [e, a2]))
  · rw [b2] at mb
    have bm := hB.mem m um
    rcases (hM m um).1 hm with e | e | e
    · by_cases d : m = B c
      · subst d
        rw [b1]
        rcases h.st with ⟨f, g⟩ | ⟨f, g, k⟩
        · exact absurd (f ▸ e) g.2
        · exact ⟨(hM c h.uc).2 (.inr (.inl rfl)), fun q => hc (q ▸ f), fun q => a3 (by rw [b2] at q; exact q.symm)⟩
      · obtain ⟨f, g, k⟩ := h.cB m um e mi d
        exact ⟨(hM _ bm).2 (.inl f), g, fun q => a1 (by rw [b2] at q; exact q ▸ f)⟩
    · subst e
      rcases h.st with ⟨f, _⟩ | ⟨f, g, k⟩
      · exact absurd f mi
      · exact ⟨(hM _ bm).2 (.inl g), k, fun q => a1 (by rw [b2] at q; exact q ▸ g)⟩
    · exact absurd e mb
  · rcases h.st with ⟨e, _⟩ | ⟨e, _, _⟩
    · exact (hM i h.ui).2 (.inr (.inl e.symm))
    · exact (hM i h.ui).2 (.inl e)
  · rw [b2]; exact (hM _ uAc).2 (.inr (.inr rfl))
  · rw [b2]; exact nAi
  · rcases (hM m um).1 hm with e | e | e
    · exact h.low m um e
    · subst e; exact .inr h.cc
    · subst e; exact .inr (.s _ h.cc)
  · exact .t _ (.s _ h.cc)
theorem Rd.fin {U : Nat → Prop} {A B : Nat → Nat} {T M : Nat → Prop} {i c : Nat} (hA : Pairs U A) (hB : Pairs U B) (h : Rd U A B T M i c) (hc : M c) : ∀ m, U m → (M m ↔ T m ∨ Conn A B i m) := by
  have b1 := hB.inv c h.uc
  have st := h.st
  have ci : c = i := by
    refine Classical.byContradiction fun n => ?_
    rcases st with ⟨e, _⟩ | ⟨e, g, k⟩
    · exact n e
    · exact (h.cB c h.uc hc n (Ne.symm (hB.ne c h.uc))).2.2 rfl
  have hi : M i ∧ M (B c) := by
    rcases st with ⟨e, f⟩ | ⟨e, g, k⟩
    · exact absurd (ci ▸ hc) f.1
    · exact ⟨e, g⟩
  have cB : ∀ m, U m → M m → M (B m) := by
    intro m um hm
    by_cases e : m = i
    · rw [e, ← ci]; exact hi.2
    · by_cases f : m = B c
      · rw [f, b1]; exact hc
      · exact (h.cB m um hm e f).1
  have all : ∀ m, Conn A B i m → U m ∧ M m := by
    intro m hm
    induction hm with
    | refl => exact ⟨h.ui, hi.1⟩
    | s y _ ih => exact ⟨hA.mem y ih.1, h.cA y ih.1 ih.2⟩
    | t y _ ih => exact ⟨hB.mem y ih.1, cB y ih.1 ih.2⟩
  intro m um
  exact ⟨h.low m um, fun e => e.elim (h.sub m um) (fun e => (all m e).2)⟩
/-- the index is the first of its curve -/
def Fst (U : Nat → Prop) (A B : Nat → Nat) (i : Nat) : Prop := U i ∧ ∀ j, j < i → U j → ¬ Conn A B j i
/-- what is met before index i is looked at -/
def MetI (U : Nat → Prop) (A B : Nat → Nat) (i : Nat) (T : Nat → Prop) : Prop := ∀ m, U m → (T m ↔ ∃ j, j < i ∧ U j ∧ Conn A B j m)
theorem MetI.closed {U : Nat → Prop} {A B : Nat → Nat} {i : Nat} {T : Nat → Prop} (hA : Pairs U A) (hB : Pairs U B) (h : MetI U A B i T) : (∀ m, U m → T m → T (A m)) ∧ (∀ m, U m → T m → T (B m)) := by
  refine ⟨fun m um t => ?_, fun m um t => ?_⟩
  · obtain ⟨j, a, b, c⟩ := (h m um).1 t; exact (h _ (hA.mem m um)).2 ⟨j, a, b, .s _ c⟩
  · obtain ⟨j, a, b, c⟩ := (h m um).1 t; exact (h _ (hB.mem m um)).2 ⟨j, a, b, .t _ c⟩
theorem MetI.skip {U : Nat → Prop} {A B : Nat → Nat} {i : Nat} {T : Nat → Prop} (h : MetI U A B i T) (hi : U i → T i) : MetI U A B (i + 1) T ∧ ¬ Fst U A B i := by
  constructor
  · intro m um
    refine ⟨fun t => ?_, fun ⟨j, a, b, c⟩ => ?_⟩
    · obtain ⟨j, a, b, c⟩ := (h m um).1 t; exact ⟨j, by omega, b, c⟩
    · by_cases e : j = i
      · subst e
        obtain ⟨j', a', b', c'⟩ := (h j b).1 (hi b)
        exact (h m um).2 ⟨j', a', b', c'.trans c⟩
      · exact (h m um).2 ⟨j, by omega, b, c⟩
  · intro ⟨ui, hf⟩
    obtain ⟨j, a, b, c⟩ := (h i ui).1 (hi ui)
    exact hf j a b c
theorem MetI.round {U : Nat → Prop} {A B : Nat → Nat} {i : Nat} {T T' : Nat → Prop} (h : MetI U A B i T) (ui : U i) (hi : ¬ T i) (hT : ∀ m, U m → (T' m ↔ T m ∨ Conn A B i m)) : MetI U A B (i + 1) T' ∧ Fst U A B i := by
  constructor
  · intro m um
    rw [hT m um]
    refine ⟨fun t => ?_, fun ⟨j, a, b, c⟩ => ?_⟩
    · rcases t with t | t
      · obtain ⟨j, a, b, c⟩ := (h m um).1 t; exact ⟨j, by omega, b, c⟩
      · exact ⟨i, by omega, ui, t⟩
    · by_cases e : j = i
      · exact .inr (e ▸ c)
      · exact .inl ((h m um).2 ⟨j, by omega, b, c⟩)
  · exact ⟨ui, fun j a b c => hi ((h i ui).2 ⟨j, a, b, c⟩)⟩
theorem Conn.swap {σ τ : Nat → Nat} {x y : Nat} (h : Conn σ τ x y) : Conn τ σ x y := by
  induction h with
  | refl => exact .refl
  | s y _ ih => exact .t _ ih
  | t y _ ih => exact .s _ ih
theorem fst_swap {U : Nat → Prop} {A B : Nat → Nat} {i : Nat} : Fst U A B i ↔ Fst U B A i := ⟨fun h => ⟨h.1, fun j a b c => h.2 j a b c.swap⟩, fun h => ⟨h.1, fun j a b c => h.2 j a b c.swap⟩⟩
/-! ### along the ways -/
structure W0 (σ τ : Nat → Nat) (mid P M : Nat → Prop) : Prop where
  cl : ∀ u, ((mid u ∧ M u) ∨ (¬ mid u ∧ P u)) → ¬ mid (σ u) ∨ M (σ u)
  ct : ∀ u, mid u → M u → M (τ u)
  low : ∀ u, mid u → M u → ∃ o, ¬ mid o ∧ Conn σ τ o u
structure W1 (σ τ : Nat → Nat) (mid P : Nat → Prop) (p z : Nat) (M : Nat → Prop) : Prop where
  pin : ¬ mid p
  zin : z = p ∨ (mid z ∧ M z)
  cl : ∀ u, ((mid u ∧ M u) ∨ (¬ mid u ∧ (P u ∨ u = p))) → u ≠ z → ¬ mid (σ u) ∨ M (σ u)
  ct : ∀ u, mid u → M u → M (τ u)
  low : ∀ u, mid u → M u → ∃ o, ¬ mid o ∧ Conn σ τ o u
  cz : Conn σ τ p z
theorem W0.start {σ τ : Nat → Nat} {mid P M : Nat → Prop} (h : W0 σ τ mid P M) {p : Nat} (hp : ¬ mid p) : W1 σ τ mid P p p M := by
  refine ⟨hp, .inl rfl, fun u hu ne => ?_, h.ct, h.low, .refl⟩
  rcases hu with hu | ⟨a, b⟩
  · exact h.cl u (.inl hu)
  · exact h.cl u (.inr ⟨a, b.resolve_right ne⟩)
theorem W1.step {σ τ : Nat → Nat} {mid P M M' : Nat → Prop} {p z : Nat} (hs : Inv2 σ) (ht : Inv2 τ) (tm : ∀ u, mid u → mid (τ u)) (h : W1 σ τ mid P p z M) (hz : mid (σ z)) (hM : ∀ u, mid u → (M' u ↔ M u ∨ u = σ z ∨ u = τ (σ z))) : W1 σ τ mid P p (τ (σ z)) M' := by
  have up : ∀ u, mid u → M u → M' u := fun u a b => (hM u a).2 (.inl b)
  refine ⟨h.pin, .inr ⟨tm _ hz, (hM _ (tm _ hz)).2 (.inr (.inr rfl))⟩, fun u hu ne => ?_, fun u um hu => ?_, fun u um hu => ?_, .t _ (.s _ h.cz)⟩
  · have old : ((mid u ∧ M u) ∨ (¬ mid u ∧ (P u ∨ u = p))) → ¬ mid (σ u) ∨ M' (σ u) := by
      intro q
      by_cases e : u = z
      · rw [e]; exact .inr ((hM _ hz).2 (.inr (.inl rfl)))
      · by_cases m : mid (σ u)
        · exact .inr (up _ m ((h.cl u q e).resolve_left (fun f => f m)))
        · exact .inl m
    rcases hu with ⟨um, hu⟩ | hu
    · rcases (hM u um).1 hu with e | e | e
      · exact old (.inl ⟨um, e⟩)
      · rw [e, hs z]
        rcases h.zin with f | ⟨f, g⟩
        · exact .inl (f ▸ h.pin)
        · exact .inr (up _ f g)
      · exact absurd e ne
    · exact old (.inr hu)
  · refine (hM _ (tm u um)).2 ?_
    rcases (hM u um).1 hu with e | e | e
    · exact .inl (h.ct u um e)
    · exact .inr (.inr (by rw [e]))
    · exact .inr (.inl (by rw [e, ht]))
  · rcases (hM u um).1 hu with e | e | e
    · exact h.low u um e
    · exact ⟨p, h.pin, e ▸ .s _ h.cz⟩
    · exact ⟨p, h.pin, e ▸ .t _ (.s _ h.cz)⟩
theorem W1.fin {σ τ : Nat → Nat} {mid P M : Nat → Prop} {p z : Nat} (h : W1 σ τ mid P p z M) (hz : ¬ mid (σ z)) : W0 σ τ mid (fun u => P u ∨ u = p) M := by
  refine ⟨fun u hu => ?_, h.ct, h.low⟩
  by_cases e : u = z
  · rw [e]; exact .inl hz
  · exact h.cl u hu e
theorem W0.all {σ τ : Nat → Nat} {mid P M : Nat → Prop} (h : W0 σ τ mid P M) (tout : ∀ u, ¬ mid u → τ u = u) (hP : ∀ u, ¬ mid u → P u ∨ σ u = u) : ∀ u, mid u → (M u ↔ ∃ o, ¬ mid o ∧ Conn σ τ o u) := by
  intro u um
  refine ⟨h.low u um, fun ⟨o, ho, hc⟩ => ?_⟩
  have all : ∀ v, Conn σ τ o v → ¬ mid v ∨ M v := by
    intro v hv
    induction hv with
    | refl => exact .inl ho
    | s y _ ih =>
      by_cases my : mid y
      · exact h.cl y (.inl ⟨my, ih.resolve_left (fun e => e my)⟩)
      · rcases hP y my with a | a
        · exact h.cl y (.inr ⟨my, a⟩)
        · rw [a]; exact .inl my
    | t y _ ih =>
      by_cases my : mid y
      · exact .inr (h.ct y my (ih.resolve_left (fun e => e my)))
      · rw [tout y my]; exact .inl my
  exact (all u hc).resolve_left (fun e => e um)
/-! ### indices and points -/
theorem tau_prs {f g : Nat → Nat} {σ : Nat → Nat} (k : Nat) : OK σ (prs f g k) → ∀ j, j < k → tau (prs f g k) (f j) = g j ∧ tau (prs f g k) (g j) = f j := by
  induction k with
  | zero => intro _ j hj; omega
  | succ k ih =>
    intro h j hj
    have h' := h
    obtain ⟨h0, h1, h2, h3, h4, h5⟩ := h'
    by_cases e : j = k
    · subst e; exact ⟨tau_fst _ _ _, tau_snd _ h0⟩
    · have hjk : j < k := by omega
      obtain ⟨a, b⟩ := ih h5 j hjk
      have p1 : pts (prs f g k) (f j) := (pts_prs _ _ _ _).2 ⟨j, hjk, .inl rfl⟩
      have p2 : pts (prs f g k) (g j) := (pts_prs _ _ _ _).2 ⟨j, hjk, .inr rfl⟩
      have q1 : f j ≠ f k := fun e => h3 (e ▸ p1)
      have q2 : f j ≠ g k := fun e => h4 (e ▸ p1)
      have q3 : g j ≠ f k := fun e => h3 (e ▸ p2)
      have q4 : g j ≠ g k := fun e => h4 (e ▸ p2)
      simp only [prs, tau]
      rw [if_neg q1, if_neg q2, if_neg q3, if_neg q4]
      exact ⟨a, b⟩
/-- the indices whose curves stay within the pairs, and the steps from one to another -/
structure Ixs (f g : Nat → Nat) (k : Nat) (σ : Nat → Nat) (U : Nat → Prop) (A B : Nat → Nat) : Prop where
  lt : ∀ m, U m → m < k
  u : ∀ m, m < k → (U m ↔ ∀ z, Conn σ (tau (prs f g k)) (f m) z → pts (prs f g k) z)
  sA : ∀ m, U m → U (A m) ∧ σ (f m) = f (A m)
  sB : ∀ m, U m → U (B m) ∧ σ (g m) = g (B m)
theorem Ixs.conn {f g : Nat → Nat} {k : Nat} {σ : Nat → Nat} {U : Nat → Prop} {A B : Nat → Nat} (h : Ixs f g k σ U A B) (ho : OK σ (prs f g k)) {j : Nat} (uj : U j) {z : Nat} (hz : Conn σ (tau (prs f g k)) (f j) z) : ∃ i, U i ∧ Conn A B j i ∧ (z = f i ∨ z = g i) := by
  induction hz with
  | refl => exact ⟨j, uj, .refl, .inl rfl⟩
  | s y _ ih =>
    obtain ⟨i, a, b, c⟩ := ih
    rcases c with c | c
    · have := h.sA i a; exact ⟨A i, this.1, .s _ b, .inl (by rw [c]; exact this.2)⟩
    · have := h.sB i a; exact ⟨B i, this.1, .t _ b, .inr (by rw [c]; exact this.2)⟩
  | t y _ ih =>
    obtain ⟨i, a, b, c⟩ := ih
    have := tau_prs k ho i (h.lt i a)
    rcases c with c | c
    · exact ⟨i, a, b, .inr (by rw [c]; exact this.1)⟩
    · exact ⟨i, a, b, .inl (by rw [c]; exact this.2)⟩
theorem Ixs.back {f g : Nat → Nat} {k : Nat} {σ : Nat → Nat} {U : Nat → Prop} {A B : Nat → Nat} (h : Ixs f g k σ U A B) (ho : OK σ (prs f g k)) {j i : Nat} (uj : U j) (hz : Conn A B j i) : U i ∧ Conn σ (tau (prs f g k)) (f j) (f i) := by
  induction hz with
  | refl => exact ⟨uj, .refl⟩
  | s y _ ih =>
    have := h.sA y ih.1
    exact ⟨this.1, this.2 ▸ .s _ ih.2⟩
  | t y _ ih =>
    have e := h.sB y ih.1
    have t1 := tau_prs k ho y (h.lt y ih.1)
    have t2 := tau_prs k ho (B y) (h.lt _ e.1)
    refine ⟨e.1, ?_⟩
    have := Conn.t _ (Conn.s _ (Conn.t _ ih.2))
    rwa [t1.1, e.2, t2.2] at this
theorem prs_ne {f g : Nat → Nat} {σ : Nat → Nat} (k : Nat) : OK σ (prs f g k) → ∀ i j, i < k → j < k → (f i = f j → i = j) ∧ f i ≠ g j ∧ (g i = g j → i = j) := by
  induction k with
  | zero => intro _ i j hi; omega
  | succ k ih =>
    intro h i j hi hj
    obtain ⟨h0, h1, h2, h3, h4, h5⟩ := h
    have p1 : ∀ i, i < k → f i ≠ f k ∧ g i ≠ f k ∧ f i ≠ g k ∧ g i ≠ g k := fun i hi => by
      have a : pts (prs f g k) (f i) := (pts_prs _ _ _ _).2 ⟨i, hi, .inl rfl⟩
      have b : pts (prs f g k) (g i) := (pts_prs _ _ _ _).2 ⟨i, hi, .inr rfl⟩
      exact ⟨fun e => h3 (e ▸ a), fun e => h3 (e ▸ b), fun e => h4 (e ▸ a), fun e => h4 (e ▸ b)⟩
    by_cases ei : i = k
    · by_cases ej : j = k
      · subst ei; subst ej; exact ⟨fun _ => rfl, h0, fun _ => rfl⟩
      · have := p1 j (by omega)
        subst ei
        exact ⟨fun e => absurd e.symm this.1, fun e => this.2.1 e.symm, fun e => absurd e.symm this.2.2.2⟩
    · have p := p1 i (by omega)
      by_cases ej : j = k
      · subst ej
        exact ⟨fun e => absurd e p.1, p.2.2.1, fun e => absurd e p.2.2.2⟩
      · exact ih h5 i j (by omega) (by omega)
theorem Ixs.symm {f g : Nat → Nat} {k : Nat} {σ : Nat → Nat} {U : Nat → Prop} {A B : Nat → Nat} (h : Ixs f g k σ U A B) (hi : Inv2 σ) (ho : OK σ (prs f g k)) {j i : Nat} (uj : U j) (hz : Conn A B j i) : Conn A B i j := by
  obtain ⟨ui, c⟩ := h.back ho uj hz
  obtain ⟨j', _, d, e⟩ := h.conn ho ui (c.symm hi (tau_inv ho))
  rename_i uj'
  have n := prs_ne k ho j j' (h.lt j uj) (h.lt j' uj')
  rcases e with e | e
  · rw [n.1 e]; exact d
  · exact absurd e n.2.1
theorem Ixs.mn {f g : Nat → Nat} {k : Nat} {σ : Nat → Nat} {U : Nat → Prop} {A B : Nat → Nat} (h : Ixs f g k σ U A B) (hi : Inv2 σ) (ho : OK σ (prs f g k)) {j : Nat} (hj : j < k) : Mn f g k σ j ↔ Fst U A B j := by
  constructor
  · intro m
    have uj : U j := (h.u j hj).2 (fun z hz => by obtain ⟨i, _, b, c⟩ := m z hz; exact (pts_prs _ _ _ _).2 ⟨i, b, c⟩)
    refine ⟨uj, fun i a b c => ?_⟩
    obtain ⟨_, c⟩ := h.back ho b c
    obtain ⟨i', d, e, f⟩ := m _ (c.symm hi (tau_inv ho))
    have n := prs_ne k ho i i' (by omega) e
    rcases f with f | f
    · have := n.1 f; omega
    · exact n.2.1 f
  · intro ⟨uj, hfst⟩ z hz
    obtain ⟨i, a, b, c⟩ := h.conn ho uj hz
    refine ⟨i, ?_, h.lt i a, c⟩
    refine Classical.byContradiction fun n => ?_
    exact hfst i (by omega) a (h.symm hi ho uj b)
end Go.Proofs.Ytjfkompfkgjdaaa.G
end
section
/- Two matchings, one on top of the other, glued along the middle: plain. -/
namespace Go.Proofs.Ytjfkompfkgjdaaa.G
/-! ### two matchings, one on top of the other -/
/-- a matching of 2 n points -/
def Mat (n : Nat) (a : Nat → Nat) : Prop := ∀ z, z < 2 * n → a z < 2 * n ∧ a z ≠ z ∧ a (a z) = z
def jn (n : Nat) (a b : Nat → Nat) (z : Nat) : Nat := if z < 2 * n then a z else if z < 4 * n then 2 * n + b (z - 2 * n) else z
def up (n m : Nat) : Nat := n + m
def dn (n m : Nat) : Nat := 2 * n + m
def mids (n : Nat) : List (Nat × Nat) := prs (up n) (dn n) n
theorem jn_lo {n : Nat} {a b : Nat → Nat} {z : Nat} (h : z < 2 * n) : jn n a b z = a z := by unfold jn; rw [if_pos h]
theorem jn_hi {n : Nat} {a b : Nat → Nat} {z : Nat} (h : z < 2 * n) : jn n a b (2 * n + z) = 2 * n + b z := by
  unfold jn; rw [if_neg (by omega), if_pos (by omega), Nat.add_sub_cancel_left]
theorem jn_off {n : Nat} {a b : Nat → Nat} {z : Nat} (h : 4 * n ≤ z) : jn n a b z = z := by unfold jn; rw [if_neg (by omega), if_neg (by omega)]
theorem jn_cases {n z : Nat} : z < 2 * n ∨ (∃ y, y < 2 * n ∧ z = 2 * n + y) ∨ 4 * n ≤ z := by
  by_cases c : z < 2 * n
  · exact .inl c
  · by_cases d : z < 4 * n
    · exact .inr (.inl ⟨z - 2 * n, by omega, by omega⟩)
    · exact .inr (.inr (by omega))
theorem jn_inv {n : Nat} {a b : Nat → Nat} (ha : Mat n a) (hb : Mat n b) : Inv2 (jn n a b) := by
  intro z
  rcases @jn_cases n z with h | ⟨y, h, rfl⟩ | h
  · rw [jn_lo h, jn_lo (ha z h).1, (ha z h).2.2]
  · rw [jn_hi h, jn_hi (hb y h).1, (hb y h).2.2]
  · rw [jn_off h, jn_off h]
theorem jn_alive {n : Nat} {a b : Nat → Nat} (ha : Mat n a) (hb : Mat n b) {z : Nat} : jn n a b z ≠ z ↔ z < 4 * n := by
  rcases @jn_cases n z with h | ⟨y, h, rfl⟩ | h
  · rw [jn_lo h]; exact ⟨fun _ => by omega, fun _ => (ha z h).2.1⟩
  · rw [jn_hi h]; exact ⟨fun _ => by omega, fun _ e => (hb y h).2.1 (by omega)⟩
  · rw [jn_off h]; exact ⟨fun e => absurd rfl e, fun e => by omega⟩
theorem jn_lt {n : Nat} {a b : Nat → Nat} (ha : Mat n a) (hb : Mat n b) {z : Nat} (h : z < 4 * n) : jn n a b z < 4 * n := by
  rcases @jn_cases n z with c | ⟨y, c, rfl⟩ | c
  · rw [jn_lo c]; have := (ha z c).1; omega
  · rw [jn_hi c]; have := (hb y c).1; omega
  · omega
theorem prs_ok {f g : Nat → Nat} {σ : Nat → Nat} (k : Nat) (hn : ∀ i j, i < k → j < k → (f i = f j → i = j) ∧ f i ≠ g j ∧ (g i = g j → i = j)) (ha : ∀ i, i < k → σ (f i) ≠ f i ∧ σ (g i) ≠ g i) : OK σ (prs f g k) := by
  induction k with
  | zero => trivial
  | succ k ih =>
    have h := ih (fun i j a b => hn i j (by omega) (by omega)) (fun i a => ha i (by omega))
    have hk := ha k (by omega)
    refine ⟨(hn k k (by omega) (by omega)).2.1, hk.1, hk.2, fun q => ?_, fun q => ?_, h⟩
    · obtain ⟨i, a, b⟩ := (pts_prs _ _ _ _).1 q
      rcases b with b | b
      · have := (hn k i (by omega) (by omega)).1 b; omega
      · exact (hn k i (by omega) (by omega)).2.1 b
    · obtain ⟨i, a, b⟩ := (pts_prs _ _ _ _).1 q
      rcases b with b | b
      · exact (hn i k (by omega) (by omega)).2.1 b.symm
      · have := (hn k i (by omega) (by omega)).2.2 b; omega
theorem mids_ok {n : Nat} {a b : Nat → Nat} (ha : Mat n a) (hb : Mat n b) : OK (jn n a b) (mids n) := by
  refine prs_ok n (fun i j hi hj => ?_) (fun i hi => ⟨(jn_alive ha hb).2 ?_, (jn_alive ha hb).2 ?_⟩) <;> simp only [up, dn] <;> omega
theorem mids_pts {n z : Nat} : pts (mids n) z ↔ n ≤ z ∧ z < 3 * n := by
  unfold mids
  rw [pts_prs]
  constructor
  · rintro ⟨i, h, e⟩; simp only [up, dn] at e; omega
  · intro h
    by_cases c : z < 2 * n
    · exact ⟨z - n, by omega, .inl (by simp only [up]; omega)⟩
    · exact ⟨z - 2 * n, by omega, .inr (by simp only [dn]; omega)⟩
/-- the outer points -/
def emb (n p : Nat) : Nat := if p < n then p else p + 2 * n
def une (n q : Nat) : Nat := if q < n then q else q - 2 * n
theorem emb_out {n p : Nat} (h : p < 2 * n) : ¬ pts (mids n) (emb n p) ∧ emb n p < 4 * n := by
  rw [mids_pts]; unfold emb; split <;> omega
theorem une_emb {n p : Nat} : une n (emb n p) = p := by
  unfold une emb
  by_cases c : p < n
  · rw [if_pos c, if_pos c]
  · rw [if_neg c, if_neg (by omega)]; omega
theorem emb_une {n q : Nat} (h : ¬ pts (mids n) q) (h2 : q < 4 * n) : emb n (une n q) = q ∧ une n q < 2 * n := by
  rw [mids_pts] at h
  unfold une emb
  by_cases c : q < n
  · rw [if_pos c, if_pos c]; omega
  · rw [if_neg c, if_neg (by omega)]; omega
def prod (n : Nat) (a b : Nat → Nat) (p : Nat) : Nat := une n ((glue (mids n) (jn n a b)).1 (emb n p))
def lops (n : Nat) (a b : Nat → Nat) : Nat := (glue (mids n) (jn n a b)).2
theorem glue_out {n : Nat} {a b : Nat → Nat} (ha : Mat n a) (hb : Mat n b) {z : Nat} (h1 : ¬ pts (mids n) z) (h2 : z < 4 * n) : ¬ pts (mids n) ((glue (mids n) (jn n a b)).1 z) ∧ (glue (mids n) (jn n a b)).1 z < 4 * n := by
  have hi := jn_inv ha hb
  have ho := mids_ok ha hb
  have gi := glue_inv _ _ hi ho
  have ga := glue_alive _ _ hi ho z h1 ((jn_alive ha hb).2 h2)
  refine ⟨fun e => ?_, ?_⟩
  · have := glue_dead _ _ hi ho _ (.inl e); rw [gi] at this; exact ga this.symm
  · refine Classical.byContradiction fun e => ?_
    have := glue_dead _ _ hi ho ((glue (mids n) (jn n a b)).1 z) (.inr (jn_off (by omega))); rw [gi] at this; exact ga this.symm
theorem prod_emb {n : Nat} {a b : Nat → Nat} (ha : Mat n a) (hb : Mat n b) {p : Nat} (h : p < 2 * n) : emb n (prod n a b p) = (glue (mids n) (jn n a b)).1 (emb n p) ∧ prod n a b p < 2 * n := by
  have e := emb_out h
  have g := glue_out ha hb e.1 e.2
  exact emb_une g.1 g.2
theorem prod_mat {n : Nat} {a b : Nat → Nat} (ha : Mat n a) (hb : Mat n b) : Mat n (prod n a b) := by
  intro p hp
  have h1 := prod_emb ha hb hp
  have h2 := prod_emb ha hb h1.2
  have gi := glue_inv _ _ (jn_inv ha hb) (mids_ok ha hb)
  refine ⟨h1.2, fun e => ?_, ?_⟩
  · have ga := glue_alive _ _ (jn_inv ha hb) (mids_ok ha hb) _ (emb_out hp).1 ((jn_alive ha hb).2 (emb_out hp).2)
    rw [e] at h1; exact ga h1.1.symm
  · have h3 := h2.1
    rw [h1.1, gi] at h3
    have := congrArg (une n) h3
    rwa [une_emb, une_emb] at this
/-- what a walk from an outer point finds is the partner in the product -/
theorem prod_path {n : Nat} {a b : Nat → Nat} (ha : Mat n a) (hb : Mat n b) {p q : Nat} (hp : p < 2 * n) (h : Path (jn n a b) (mids n) (emb n p) q) : une n q = prod n a b p := by
  unfold prod
  rw [path_glue _ _ (jn_inv ha hb) (mids_ok ha hb) (emb_out hp).1 h]
/-! ### the steps through the middle -/
theorem tau_up {n : Nat} {a b : Nat → Nat} (ha : Mat n a) (hb : Mat n b) {m : Nat} (hm : m < n) : tau (mids n) (n + m) = 2 * n + m ∧ tau (mids n) (2 * n + m) = n + m := tau_prs n (mids_ok ha hb) m hm
/-- the indices whose curves stay in the middle -/
def Cl (n : Nat) (a b : Nat → Nat) (m : Nat) : Prop := m < n ∧ ∀ z, Conn (jn n a b) (tau (mids n)) (n + m) z → pts (mids n) z
theorem cl_ixs {n : Nat} {a b : Nat → Nat} (ha : Mat n a) (hb : Mat n b) : Ixs (up n) (dn n) n (jn n a b) (Cl n a b) (fun m => a (n + m) - n) (fun m => b m) := by
  refine ⟨fun m h => h.1, fun m hm => ⟨fun h => h.2, fun h => ⟨hm, h⟩⟩, fun m h => ?_, fun m h => ?_⟩
  · obtain ⟨hm, h⟩ := h
    have c1 : Conn (jn n a b) (tau (mids n)) (n + m) (a (n + m)) := by
      have := Conn.s (σ := jn n a b) (τ := tau (mids n)) (x := n + m) _ .refl
      rwa [jn_lo (by omega)] at this
    have h1 := mids_pts.1 (h _ c1)
    have h2 := (ha (n + m) (by omega)).1
    have e : n + (a (n + m) - n) = a (n + m) := by omega
    refine ⟨⟨by omega, fun z hz => ?_⟩, ?_⟩
    · rw [e] at hz; exact h _ (c1.trans hz)
    · simp only [up]; rw [jn_lo (by omega), e]
  · obtain ⟨hm, h⟩ := h
    have c1 : Conn (jn n a b) (tau (mids n)) (n + m) (2 * n + b m) := by
      have := Conn.s _ (Conn.t (σ := jn n a b) (τ := tau (mids n)) (x := n + m) _ .refl)
      rwa [(tau_up ha hb hm).1, jn_hi (by omega)] at this
    have h1 := mids_pts.1 (h _ c1)
    have h2 := (hb m (by omega)).1
    have hbm : b m < n := by omega
    have c2 : Conn (jn n a b) (tau (mids n)) (n + m) (n + b m) := by
      have := Conn.t _ c1
      rwa [(tau_up ha hb hbm).2] at this
    refine ⟨⟨hbm, fun z hz => h _ (c2.trans hz)⟩, ?_⟩
    simp only [dn]; rw [jn_hi (by omega)]
theorem cl_pairs {n : Nat} {a b : Nat → Nat} (ha : Mat n a) (hb : Mat n b) : Pairs (Cl n a b) (fun m => a (n + m) - n) ∧ Pairs (Cl n a b) (fun m => b m) := by
  have h := cl_ixs ha hb
  refine ⟨⟨fun m u => (h.sA m u).1, fun m u e => ?_, fun m u => ?_⟩, ⟨fun m u => (h.sB m u).1, fun m u => ?_, fun m u => ?_⟩⟩
  · have h1 := (h.sA m u).2
    have hm := u.1
    simp only [up] at h1
    rw [jn_lo (by omega), e] at h1
    exact (ha _ (by omega)).2.1 h1
  · have h1 := (h.sA m u).2
    have hm := u.1
    simp only [up] at h1
    rw [jn_lo (by omega)] at h1
    show a (n + (a (n + m) - n)) - n = m
    rw [← h1, (ha _ (by omega)).2.2]; omega
  · have hm := u.1
    exact (hb m (by omega)).2.1
  · have hm := u.1
    exact (hb m (by omega)).2.2
theorem lops_fst {n : Nat} {a b : Nat → Nat} (ha : Mat n a) (hb : Mat n b) : lops n a b = cntP (Fst (Cl n a b) (fun m => a (n + m) - n) (fun m => b m)) n := by
  unfold lops mids
  rw [glue_count _ _ _ _ (jn_inv ha hb) (mids_ok ha hb)]
  exact cntP_congr n (fun i hi => (cl_ixs ha hb).mn (jn_inv ha hb) (mids_ok ha hb) hi)
/-- what the ways meet is what is not closed in the middle -/
theorem met_cl {n : Nat} {a b : Nat → Nat} (ha : Mat n a) (hb : Mat n b) {m : Nat} (hm : m < n) : (∃ o, ¬ pts (mids n) o ∧ Conn (jn n a b) (tau (mids n)) o (n + m)) ↔ ¬ Cl n a b m := by
  have hi := jn_inv ha hb
  have ht := tau_inv (mids_ok ha hb)
  constructor
  · rintro ⟨o, h1, h2⟩ h3
    exact h1 (h3.2 o (h2.symm hi ht))
  · intro h
    refine Classical.byContradiction fun e => h ⟨hm, fun z hz => Classical.byContradiction fun f => e ⟨z, f, hz.symm hi ht⟩⟩
end Go.Proofs.Ytjfkompfkgjdaaa.G
end
section
/- The product as the program makes it is the gluing along the middle. -/
namespace Go.Proofs.Ytjfkompfkgjdaaa.L
open Go.RowKit Go.Proofs.Ytjfkompfkgjdaaa.PC Go.Proofs.YtjfkompfkgjdaaaW.PrintWords Go.Proofs.YtjfkompfkgjdaaaW.PrintLast Go.Proofs.Ytjfkompfkgjdaaa.G
/-- a list as a function -/
def fn (l : List Int) (z : Nat) : Nat := (rd l (z : Int)).toNat
/-- a list that is a matching of 2 n points -/
structure LM (n : Nat) (l : List Int) : Prop where
  len : l.length = 2 * n
  nn : ∀ z : Nat, z < 2 * n → rd l (z : Int) = (fn l z : Int)
  mat : Mat n (fn l)
def prodL (n : Nat) (a b : List Int) : List Int := (List.range (2 * n)).map (fun p => (prod n (fn a) (fn b) p : Int))
theorem rd_range (f : Nat → Int) (N z : Nat) (h : z < N) : rd ((List.range N).map f) (z : Int) = f z := by
  simp [rd, List.getD_eq_getElem?_getD, h]
theorem prodL_rd {n : Nat} {a b : List Int} {z : Nat} (h : z < 2 * n) : rd (prodL n a b) (z : Int) = (prod n (fn a) (fn b) z : Int) := rd_range _ _ _ h
theorem prodL_len {n : Nat} {a b : List Int} : (prodL n a b).length = 2 * n := by simp [prodL]
theorem prodL_fn {n : Nat} {a b : List Int} {z : Nat} (h : z < 2 * n) : fn (prodL n a b) z = prod n (fn a) (fn b) z := by
  show (rd (prodL n a b) (z : Int)).toNat = _
  rw [prodL_rd h, Int.toNat_natCast]
theorem mat_congr {n : Nat} {a b : Nat → Nat} (h : ∀ z, z < 2 * n → a z = b z) (hb : Mat n b) : Mat n a := by
  intro z hz
  have := hb z hz
  rw [h z hz, h _ this.1]
  exact this
theorem prodL_lm {n : Nat} {a b : List Int} (ha : LM n a) (hb : LM n b) : LM n (prodL n a b) :=
  ⟨prodL_len, fun z hz => by rw [prodL_rd hz, prodL_fn hz], mat_congr (fun z hz => prodL_fn hz) (prod_mat ha.mat hb.mat)⟩
theorem list_eq {a b : List Int} (hl : a.length = b.length) (h : ∀ z : Nat, z < a.length → rd a (z : Int) = rd b (z : Int)) : a = b := by
  apply List.ext_getElem hl
  intro i h1 h2
  have := h i h1
  simpa [rd, List.getD_eq_getElem?_getD, h1, h2] using this
/-! ### the ways -/
abbrev sg (n : Nat) (a b : List Int) : Nat → Nat := jn n (fn a) (fn b)
/-- the points that a list of marks, by index, marks -/
def MT (n : Nat) (T : List Bool) (u : Nat) : Prop := T.getD (u % n) false = true
theorem getD_set (T : List Bool) (i j : Nat) (h : i < T.length) : (T.set i true).getD j false = true ↔ T.getD j false = true ∨ j = i := by
  by_cases e : i = j
  · subst e; simp [List.getD_eq_getElem?_getD, h]
  · simp only [List.getD_eq_getElem?_getD, List.getElem?_set_ne e]
    exact ⟨fun h => .inl h, fun h => h.elim id (fun f => absurd f.symm e)⟩
theorem mid_mod {n u m : Nat} (hu : pts (mids n) u) (hm : m < n) : u % n = m ↔ u = n + m ∨ u = 2 * n + m := by
  rw [mids_pts] at hu
  by_cases c : u < 2 * n
  · have e : u % n = u - n := by rw [Nat.mod_eq_sub_mod (by omega), Nat.mod_eq_of_lt (by omega)]
    rw [e]; omega
  · have e : u % n = u - n - n := by rw [Nat.mod_eq_sub_mod (by omega), Nat.mod_eq_sub_mod (by omega), Nat.mod_eq_of_lt (by omega)]
    rw [e]; omega
def zOf (n : Nat) (up : Bool) (p : Nat) : Nat := if up = true then p else 2 * n + p
/-- one step from a point to the next one -/
def stp (n : Nat) (a b : List Int) (z : Nat) : Nat := tau (mids n) (sg n a b z)
theorem way_ok {n : Nat} {a b : List Int} (ha : LM n a) (hb : LM n b) (P : Nat → Prop) (p0 : Nat) (d : Nat) : ∀ (fuel : Nat) (up : Bool) (p : Nat) (T : List Bool), d < fuel → p < 2 * n → T.length = n →
    ¬ pts (mids n) (itr (stp n a b) (d + 1) (zOf n up p)) → (∀ i, i < d → pts (mids n) (itr (stp n a b) (i + 1) (zOf n up p))) →
    W1 (sg n a b) (tau (mids n)) (pts (mids n)) P p0 (zOf n up p) (MT n T) →
    ∃ q T', plait_way a b n fuel up (p : Int) T = some ((une n q : Int), T') ∧ T'.length = n ∧ Path (sg n a b) (mids n) (zOf n up p) q ∧ W0 (sg n a b) (tau (mids n)) (pts (mids n)) (fun u => P u ∨ u = p0) (MT n T') := by
  have ho := mids_ok ha.mat hb.mat
  have hs := jn_inv ha.mat hb.mat
  have ht := tau_inv ho
  induction d with
  | zero =>
    intro fuel up p T hf hp hT h1 _ hW
    obtain ⟨k, rfl⟩ : ∃ k, fuel = k + 1 := ⟨fuel - 1, by omega⟩
    have hn : ¬ pts (mids n) (sg n a b (zOf n up p)) := fun e => h1 (tau_pts ho e)
    refine ⟨_, T, ?_, hT, .out _ hn, hW.fin hn⟩
    simp only [plait_way]
    have la := ha.len
    rw [if_pos (by omega)]
    cases up with
    | true =>
      have e : sg n a b (zOf n true p) = fn a p := jn_lo hp
      have hlt := (ha.mat p hp).1
      rw [e, mids_pts] at hn
      rw [if_pos rfl, ha.nn p hp, if_pos (decide_eq_true (by omega)).symm, e]
      unfold une; rw [if_pos (by omega)]
    | false =>
      have e : sg n a b (zOf n false p) = 2 * n + fn b p := jn_hi hp
      have hlt := (hb.mat p hp).1
      rw [e, mids_pts] at hn
      simp only [Bool.false_eq_true, ↓reduceIte]
      rw [hb.nn p hp, if_pos (decide_eq_false (by omega)).symm, e]
      unfold une; rw [if_neg (by omega), Nat.add_sub_cancel_left]
  | succ d ih =>
    intro fuel up p T hf hp hT h1 h2 hW
    obtain ⟨k, rfl⟩ : ∃ k, fuel = k + 1 := ⟨fuel - 1, by omega⟩
    have h3 : pts (mids n) (sg n a b (zOf n up p)) := by
      have := h2 0 (by omega)
      have e : itr (stp n a b) (0 + 1) (zOf n up p) = tau (mids n) (sg n a b (zOf n up p)) := rfl
      rw [e] at this
      have := tau_pts ho this
      rwa [ht] at this
    have la := ha.len
    -- the middle point
    obtain ⟨m, hm, hx, hz⟩ : ∃ m, m < n ∧ (if up = true then fn a p = n + m else fn b p = m) ∧ stp n a b (zOf n up p) = zOf n (!up) (if up = true then m else n + m) := by
      cases up with
      | true =>
        have e : sg n a b (zOf n true p) = fn a p := jn_lo hp
        have hlt := (ha.mat p hp).1
        rw [e, mids_pts] at h3
        have e2 : fn a p = n + (fn a p - n) := by omega
        refine ⟨fn a p - n, by omega, by rw [if_pos rfl]; exact e2, ?_⟩
        unfold stp
        rw [e, if_pos rfl, e2, (tau_up ha.mat hb.mat (by omega)).1, Nat.add_sub_cancel_left]
        rfl
      | false =>
        have e : sg n a b (zOf n false p) = 2 * n + fn b p := jn_hi hp
        have hlt := (hb.mat p hp).1
        rw [e, mids_pts] at h3
        refine ⟨fn b p, by omega, by rw [if_neg (by decide)], ?_⟩
        unfold stp
        rw [e, if_neg (by decide), (tau_up ha.mat hb.mat (by omega)).2]
        rfl
    have hm2 : (MT n (T.set m true)) = fun u => (T.set m true).getD (u % n) false = true := rfl
    have hM : ∀ u, pts (mids n) u → (MT n (T.set m true) u ↔ MT n T u ∨ u = sg n a b (zOf n up p) ∨ u = tau (mids n) (sg n a b (zOf n up p))) := by
      intro u hu
      unfold MT
      rw [getD_set _ _ _ (by omega), mid_mod hu hm]
      have e1 : sg n a b (zOf n up p) = if up = true then n + m else 2 * n + m := by
        cases up with
        | true => rw [if_pos rfl]; rw [if_pos rfl] at hx; exact (jn_lo hp).trans hx
        | false => rw [if_neg (by decide)]; rw [if_neg (by decide)] at hx; exact (jn_hi hp).trans (by rw [hx])
      have e2 : tau (mids n) (sg n a b (zOf n up p)) = if up = true then 2 * n + m else n + m := by
        rw [e1]
        cases up with
        | true => exact (tau_up ha.mat hb.mat hm).1
        | false => exact (tau_up ha.mat hb.mat hm).2
      rw [e2, e1]
      cases up with
      | true => simp
      | false => simp; exact ⟨fun h => h.elim .inl (fun h => .inr h.symm), fun h => h.elim .inl (fun h => .inr h.symm)⟩
    have hW' := hW.step hs ht (fun u hu => tau_pts ho hu) h3 hM
    have e4 : tau (mids n) (sg n a b (zOf n up p)) = zOf n (!up) (if up = true then m else n + m) := hz
    rw [e4] at hW'
    obtain ⟨q, T', g1, g2, g3, g4⟩ := ih k (!up) (if up = true then m else n + m) (T.set m true) (by omega) (by split <;> omega) (by simpa using hT)
      (by rw [← hz]; exact h1) (fun i hi => by rw [← hz]; exact h2 (i + 1) (by omega)) hW'
    refine ⟨q, T', ?_, g2, .via _ _ h3 (by rw [e4]; exact g3), g4⟩
    rw [← g1]
    simp only [plait_way]
    rw [if_pos (by omega)]
    cases up with
    | true =>
      rw [if_pos rfl] at hx
      have e5 : (((n + m : Nat)) : Int) % (n : Int) = (m : Int) := by
        rw [← Int.natCast_emod, Nat.add_mod_left, Nat.mod_eq_of_lt hm]
      rw [if_pos rfl, ha.nn p hp, hx, if_neg (by rw [decide_eq_false (by omega)]; decide), if_pos (by omega), if_pos rfl, if_pos rfl, e5]
      rfl
    | false =>
      rw [if_neg (by decide)] at hx
      have e5 : ((m : Nat) : Int) % (n : Int) = (m : Int) := by
        rw [← Int.natCast_emod, Nat.mod_eq_of_lt hm]
      simp only [Bool.false_eq_true, ↓reduceIte]
      rw [hb.nn p hp, hx, if_neg (by rw [decide_eq_true (by omega)]; decide), if_pos (by omega), e5]
      rw [show ((m : Nat) : Int) + (n : Int) = ((n + m : Nat) : Int) by omega]
      rfl
theorem way_start {n : Nat} {a b : List Int} (ha : LM n a) (hb : LM n b) (P : Nat → Prop) (up : Bool) (p : Nat) (T : List Bool) (hp : p < 2 * n) (hT : T.length = n) (ho : zOf n up p = emb n p)
    (hW : W0 (sg n a b) (tau (mids n)) (pts (mids n)) P (MT n T)) :
    ∃ T', plait_way a b n (2 * n + 2) up (p : Int) T = some ((prod n (fn a) (fn b) p : Int), T') ∧ T'.length = n ∧ W0 (sg n a b) (tau (mids n)) (pts (mids n)) (fun u => P u ∨ u = emb n p) (MT n T') := by
  have ok := mids_ok ha.mat hb.mat
  have hs := jn_inv ha.mat hb.mat
  have ht := tau_inv ok
  have e := emb_out hp
  obtain ⟨k, hk, h1, h2⟩ := leaves (f := stp n a b) (fun x y h => hs.inj (ht.inj h)) (pts (mids n)) (fun z => z - n) (2 * n) (fun z hz => by rw [mids_pts] at hz; omega) (fun u v hu hv h => by rw [mids_pts] at hu hv; omega) (emb n p) e.1
  rw [← ho] at h1 h2
  obtain ⟨q, T', g1, g2, g3, g4⟩ := way_ok ha hb P (emb n p) k (2 * n + 2) up p T (by omega) hp hT h1 h2 (by rw [ho]; exact hW.start e.1)
  rw [ho] at g3
  rw [prod_path ha.mat hb.mat hp g3] at g1
  exact ⟨T', g1, g2, g4⟩
end Go.Proofs.Ytjfkompfkgjdaaa.L
end
