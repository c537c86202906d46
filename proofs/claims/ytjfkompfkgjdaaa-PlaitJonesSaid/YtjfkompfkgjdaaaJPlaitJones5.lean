/- Parts of the proof of LawPlaitJones, one behind the other: PCg8 LRef PCg7 LHook MTrace MTurn MPow PCf38 PCf57 PCf39 LPow MHook LTop LWord LLex. -/
import Derived.Test.YtjfkompfkgjdaaaJPlaitJones4
section
namespace Go.Proofs.Ytjfkompfkgjdaaa.PC
open Go.RowKit Go.Proofs.YtjfkompfkgjdaaaW.PrintWords Go.Proofs.YtjfkompfkgjdaaaW.PrintLast Go.Proofs.YtjfkompfkgjdaaaW.PrintMore
attribute [local go_sem] max2_int min2_int max_two min_two max_three min_three max_four min_four   -- for this text's walks alone
set_option linter.unusedVariables false
set_option linter.unusedSimpArgs false
/-! ### pomaderef07_product: function 58 -/
mutual
def pomaderef07_product.l0 : Nat → List Int → List Int → Int → List Bool → List Int → Int → Option (List Int × Int)
 | 0, _, _, _, _, _, _ => none
 | k + 1, x0, x1, x6, x7, x8, x9 => if x9 < (wrap64 (2 * x6)) then (if x9 ≥ x6 then (pomaderef07_product.j1 k x0 x1 x6 x7 x8 x9 (wrap64 (x9 + (wrap64 (2 * x6))))) else (pomaderef07_product.j1 k x0 x1 x6 x7 x8 x9 x9)) else (pomaderef07_product.l2 k x0 x1 x6 x7 x8 0 x6)
def pomaderef07_product.j1 : Nat → List Int → List Int → Int → List Bool → List Int → Int → Int → Option (List Int × Int)
 | 0, _, _, _, _, _, _, _ => none
 | k + 1, x0, x1, x6, x7, x8, x9, x10 => if 0 ≤ x10 then (if x10 < (x7.length : Int) then (pomaderef07_product.l1 k x0 x1 x6 (x7.set (x10 : Int).toNat true) x8 x9 x10) else (none)) else (none)
def pomaderef07_product.l1 : Nat → List Int → List Int → Int → List Bool → List Int → Int → Int → Option (List Int × Int)
 | 0, _, _, _, _, _, _, _ => none
 | k + 1, x0, x1, x6, x7, x8, x9, x10 => if x10 < (wrap64 (2 * x6)) then (if 0 ≤ x10 then (if x10 < (x0.length : Int) then (pomaderef07_product.j3 k x0 x1 x6 x7 x8 x9 (rd x0 x10)) else (none)) else (none)) else (if 0 ≤ (wrap64 (x10 - (wrap64 (2 * x6)))) then (if (wrap64 (x10 - (wrap64 (2 * x6)))) < (x1.length : Int) then (pomaderef07_product.j3 k x0 x1 x6 x7 x8 x9 (wrap64 ((wrap64 (2 * x6)) + (rd x1 (wrap64 (x10 - (wrap64 (2 * x6)))))))) else (none)) else (none))
def pomaderef07_product.j3 : Nat → List Int → List Int → Int → List Bool → List Int → Int → Int → Option (List Int × Int)
 | 0, _, _, _, _, _, _, _ => none
 | k + 1, x0, x1, x6, x7, x8, x9, x10 => if 0 ≤ x10 then (if x10 < (x7.length : Int) then ((some (x7.set (x10 : Int).toNat true : List Bool)).bind fun y285 => (if x10 < x6 then (pomaderef07_product.j4 k x0 x1 x6 y285 x8 x9 x10 true) else (pomaderef07_product.j4 k x0 x1 x6 y285 x8 x9 x10 (decide (x10 ≥ (wrap64 (3 * x6))))))) else (none)) else (none)
def pomaderef07_product.j4 : Nat → List Int → List Int → Int → List Bool → List Int → Int → Int → Bool → Option (List Int × Int)
 | 0, _, _, _, _, _, _, _, _ => none
 | k + 1, x0, x1, x6, x7, x8, x9, x10, x69 => if x69 = true then (if x10 ≥ (wrap64 (3 * x6)) then (if 0 ≤ x9 then (if x9 < (x8.length : Int) then (pomaderef07_product.l0 k x0 x1 x6 x7 (x8.set (x9 : Int).toNat (wrap64 (x10 - (wrap64 (2 * x6))))) (wrap64 (x9 + 1))) else (none)) else (none)) else (if 0 ≤ x9 then (if x9 < (x8.length : Int) then (pomaderef07_product.l0 k x0 x1 x6 x7 (x8.set (x9 : Int).toNat x10) (wrap64 (x9 + 1))) else (none)) else (none))) else (if x10 < (wrap64 (2 * x6)) then (if 0 ≤ (wrap64 (x10 + x6)) then (if (wrap64 (x10 + x6)) < (x7.length : Int) then (pomaderef07_product.l1 k x0 x1 x6 (x7.set ((wrap64 (x10 + x6)) : Int).toNat true) x8 x9 (wrap64 (x10 + x6))) else (none)) else (none)) else (if 0 ≤ (wrap64 (x10 - x6)) then (if (wrap64 (x10 - x6)) < (x7.length : Int) then (pomaderef07_product.l1 k x0 x1 x6 (x7.set ((wrap64 (x10 - x6)) : Int).toNat true) x8 x9 (wrap64 (x10 - x6))) else (none)) else (none)))
def pomaderef07_product.l2 : Nat → List Int → List Int → Int → List Bool → List Int → Int → Int → Option (List Int × Int)
 | 0, _, _, _, _, _, _, _ => none
 | k + 1, x0, x1, x6, x7, x8, x11, x12 => if x12 < (wrap64 (2 * x6)) then (if 0 ≤ x12 then (if x12 < (x7.length : Int) then (if rdOf false x7 x12 = true then (pomaderef07_product.l2 k x0 x1 x6 x7 x8 x11 (wrap64 (x12 + 1))) else (pomaderef07_product.l3 k x0 x1 x6 x7 x8 (wrap64 (x11 + 1)) x12 x12)) else (none)) else (none)) else (some (x8, x11))
def pomaderef07_product.l3 : Nat → List Int → List Int → Int → List Bool → List Int → Int → Int → Int → Option (List Int × Int)
 | 0, _, _, _, _, _, _, _, _ => none
 | k + 1, x0, x1, x6, x7, x8, x11, x12, x13 => if 0 ≤ x13 then (if x13 < (x7.length : Int) then (if rdOf false x7 x13 = true then (pomaderef07_product.l2 k x0 x1 x6 x7 x8 x11 (wrap64 (x12 + 1))) else (if x13 < (x0.length : Int) then (if 0 ≤ (rd x0 x13) then (if (rd x0 x13) < (x7.length : Int) then (if 0 ≤ (wrap64 ((rd x0 x13) - x6)) then (if (wrap64 ((rd x0 x13) - x6)) < (x1.length : Int) then (if 0 ≤ (wrap64 ((wrap64 (2 * x6)) + (rd x1 (wrap64 ((rd x0 x13) - x6))))) then (if (wrap64 ((wrap64 (2 * x6)) + (rd x1 (wrap64 ((rd x0 x13) - x6))))) < (x7.length : Int) then (pomaderef07_product.l3 k x0 x1 x6 (((x7.set (x13 : Int).toNat true).set ((rd x0 x13) : Int).toNat true).set ((wrap64 ((wrap64 (2 * x6)) + (rd x1 (wrap64 ((rd x0 x13) - x6))))) : Int).toNat true) x8 x11 x12 (wrap64 ((wrap64 ((wrap64 (2 * x6)) + (rd x1 (wrap64 ((rd x0 x13) - x6))))) - x6))) else (none)) else (none)) else (none)) else (none)) else (none)) else (none)) else (none))) else (none)) else (none)
end
def pomaderef07_product.f (k : Nat) (l0 : List Int) (l1 : List Int) : Option (List Int × Int) := if 0 ≤ (wrap64 (4 * (wrap64 ((l0.length : Int) / 2)))) then (if (wrap64 (4 * (wrap64 ((l0.length : Int) / 2))) : Int).toNat ≤ 281474976710656 then (if 0 ≤ (wrap64 (2 * (wrap64 ((l0.length : Int) / 2)))) then (if (wrap64 (2 * (wrap64 ((l0.length : Int) / 2))) : Int).toNat ≤ 35184372088832 then (pomaderef07_product.l0 k l0 l1 (wrap64 ((l0.length : Int) / 2)) (List.replicate (wrap64 (4 * (wrap64 ((l0.length : Int) / 2))) : Int).toNat false) (List.replicate (wrap64 (2 * (wrap64 ((l0.length : Int) / 2))) : Int).toNat 0) 0) else (none)) else (none)) else (none)) else (none)
theorem pomaderef07_product.mono_l : ∀ k, (∀ y0 y1 y2 y3 y4 y5, LeO (pomaderef07_product.l0 k y0 y1 y2 y3 y4 y5) (pomaderef07_product.l0 (k + 1) y0 y1 y2 y3 y4 y5)) ∧ (∀ y0 y1 y2 y3 y4 y5 y6, LeO (pomaderef07_product.j1 k y0 y1 y2 y3 y4 y5 y6) (pomaderef07_product.j1 (k + 1) y0 y1 y2 y3 y4 y5 y6)) ∧ (∀ y0 y1 y2 y3 y4 y5 y6, LeO (pomaderef07_product.l1 k y0 y1 y2 y3 y4 y5 y6) (pomaderef07_product.l1 (k + 1) y0 y1 y2 y3 y4 y5 y6)) ∧ (∀ y0 y1 y2 y3 y4 y5 y6, LeO (pomaderef07_product.j3 k y0 y1 y2 y3 y4 y5 y6) (pomaderef07_product.j3 (k + 1) y0 y1 y2 y3 y4 y5 y6)) ∧ (∀ y0 y1 y2 y3 y4 y5 y6 y7, LeO (pomaderef07_product.j4 k y0 y1 y2 y3 y4 y5 y6 y7) (pomaderef07_product.j4 (k + 1) y0 y1 y2 y3 y4 y5 y6 y7)) ∧ (∀ y0 y1 y2 y3 y4 y5 y6, LeO (pomaderef07_product.l2 k y0 y1 y2 y3 y4 y5 y6) (pomaderef07_product.l2 (k + 1) y0 y1 y2 y3 y4 y5 y6)) ∧ (∀ y0 y1 y2 y3 y4 y5 y6 y7, LeO (pomaderef07_product.l3 k y0 y1 y2 y3 y4 y5 y6 y7) (pomaderef07_product.l3 (k + 1) y0 y1 y2 y3 y4 y5 y6 y7))
 | 0 => ⟨fun _ _ _ _ _ _ r h => by simp [pomaderef07_product.l0] at h, fun _ _ _ _ _ _ _ r h => by simp [pomaderef07_product.j1] at h, fun _ _ _ _ _ _ _ r h => by simp [pomaderef07_product.l1] at h, fun _ _ _ _ _ _ _ r h => by simp [pomaderef07_product.j3] at h, fun _ _ _ _ _ _ _ _ r h => by simp [pomaderef07_product.j4] at h, fun _ _ _ _ _ _ _ r h => by simp [pomaderef07_product.l2] at h, fun _ _ _ _ _ _ _ _ r h => by simp [pomaderef07_product.l3] at h⟩
 | k + 1 => by
  obtain ⟨ih0, ih1, ih2, ih3, ih4, ih5, ih6⟩ := pomaderef07_product.mono_l k
  refine ⟨?_, ?_, ?_, ?_, ?_, ?_, ?_⟩
  ·intro y0 y1 y2 y3 y4 y5
   unfold pomaderef07_product.l0
   repeat' first
   | (with_reducible exact ih0 _ _ _ _ _ _)
   | (with_reducible exact ih1 _ _ _ _ _ _ _)
   | (with_reducible exact ih2 _ _ _ _ _ _ _)
   | (with_reducible exact ih3 _ _ _ _ _ _ _)
   | (with_reducible exact ih4 _ _ _ _ _ _ _ _)
   | (with_reducible exact ih5 _ _ _ _ _ _ _)
   | (with_reducible exact ih6 _ _ _ _ _ _ _ _)
   | (with_reducible exact LeO.refl _)
   | (with_reducible exact LeO.none _)
   | (with_reducible refine LeO.ite ?_ ?_)
   | (with_reducible refine LeO.bind ?_ (fun _ => ?_))
   | exact ih0 _ _ _ _ _ _
   | exact ih1 _ _ _ _ _ _ _
   | exact ih2 _ _ _ _ _ _ _
   | exact ih3 _ _ _ _ _ _ _
   | exact ih4 _ _ _ _ _ _ _ _
   | exact ih5 _ _ _ _ _ _ _
   | exact ih6 _ _ _ _ _ _ _ _
   | exact LeO.none _
   | refine LeO.ite ?_ ?_
   | refine LeO.bind ?_ (fun _ => ?_)
  ·intro y0 y1 y2 y3 y4 y5 y6
   unfold pomaderef07_product.j1
   repeat' first
   | (with_reducible exact ih0 _ _ _ _ _ _)
   | (with_reducible exact ih1 _ _ _ _ _ _ _)
   | (with_reducible exact ih2 _ _ _ _ _ _ _)
   | (with_reducible exact ih3 _ _ _ _ _ _ _)
   | (with_reducible exact ih4 _ _ _ _ _ _ _ _)
   | (with_reducible exact ih5 _ _ _ _ _ _ _)
   | (with_reducible exact ih6 _ _ _ _ _ _ _ _)
   | (with_reducible exact LeO.refl _)
   | (with_reducible exact LeO.none _)
   | (with_reducible refine LeO.ite ?_ ?_)
   | (with_reducible refine LeO.bind ?_ (fun _ => ?_))
   | exact ih0 _ _ _ _ _ _
   | exact ih1 _ _ _ _ _ _ _
   | exact ih2 _ _ _ _ _ _ _
   | exact ih3 _ _ _ _ _ _ _
   | exact ih4 _ _ _ _ _ _ _ _
   | exact ih5 _ _ _ _ _ _ _
   | exact ih6 _ _ _ _ _ _ _ _
   | exact LeO.none _
   | refine LeO.ite ?_ ?_
   | refine LeO.bind ?_ (fun _ => ?_)
  ·intro y0 y1 y2 y3 y4 y5 y6
   unfold pomaderef07_product.l1
   repeat' first
   | (with_reducible exact ih0 _ _ _ _ _ _)
   | (with_reducible exact ih1 _ _ _ _ _ _ _)
   | (with_reducible exact ih2 _ _ _ _ _ _ _)
   | (with_reducible exact ih3 _ _ _ _ _ _ _)
   | (with_reducible exact ih4 _ _ _ _ _ _ _ _)
   | (with_reducible exact ih5 _ _ _ _ _ _ _)
   | (with_reducible exact ih6 _ _ _ _ _ _ _ _)
   | (with_reducible exact LeO.refl _)
   | (with_reducible exact LeO.none _)
   | (with_reducible refine LeO.ite ?_ ?_)
   | (with_reducible refine LeO.bind ?_ (fun _ => ?_))
   | exact ih0 _ _ _ _ _ _
   | exact ih1 _ _ _ _ _ _ _
   | exact ih2 _ _ _ _ _ _ _
   | exact ih3 _ _ _ _ _ _ _
   | exact ih4 _ _ _ _ _ _ _ _
   | exact ih5 _ _ _ _ _ _ _
   | exact ih6 _ _ _ _ _ _ _ _
   | exact LeO.none _
   | refine LeO.ite ?_ ?_
   | refine LeO.bind ?_ (fun _ => ?_)
  ·intro y0 y1 y2 y3 y4 y5 y6
   unfold pomaderef07_product.j3
   repeat' first
   | (with_reducible exact ih0 _ _ _ _ _ _)
   | (with_reducible exact ih1 _ _ _ _ _ _ _)
   | (with_reducible exact ih2 _ _ _ _ _ _ _)
   | (with_reducible exact ih3 _ _ _ _ _ _ _)
   | (with_reducible exact ih4 _ _ _ _ _ _ _ _)
   | (with_reducible exact ih5 _ _ _ _ _ _ _)
   | (with_reducible exact ih6 _ _ _ _ _ _ _ _)
   | (with_reducible exact LeO.refl _)
   | (with_reducible exact LeO.none _)
   | (with_reducible refine LeO.ite ?_ ?_)
   | (with_reducible refine LeO.bind ?_ (fun _ => ?_))
   | exact ih0 _ _ _ _ _ _
   | exact ih1 _ _ _ _ _ _ _
   | exact ih2 _ _ _ _ _ _ _
   | exact ih3 _ _ _ _ _ _ _
   | exact ih4 _ _ _ _ _ _ _ _
   | exact ih5 _ _ _ _ _ _ _
   | exact ih6 _ _ _ _ _ _ _ _
   | exact LeO.none _
   | refine LeO.ite ?_ ?_
   | refine LeO.bind ?_ (fun _ => ?_)
  ·intro y0 y1 y2 y3 y4 y5 y6 y7
   unfold pomaderef07_product.j4
   repeat' first
   | (with_reducible exact ih0 _ _ _ _ _ _)
   | (with_reducible exact ih1 _ _ _ _ _ _ _)
   | (with_reducible exact ih2 _ _ _ _ _ _ _)
   | (with_reducible exact ih3 _ _ _ _ _ _ _)
   | (with_reducible exact ih4 _ _ _ _ _ _ _ _)
   | (with_reducible exact ih5 _ _ _ _ _ _ _)
   | (with_reducible exact ih6 _ _ _ _ _ _ _ _)
   | (with_reducible exact LeO.refl _)
   | (with_reducible exact LeO.none _)
   | (with_reducible refine LeO.ite ?_ ?_)
   | (with_reducible refine LeO.bind ?_ (fun _ => ?_))
   | exact ih0 _ _ _ _ _ _
   | exact ih1 _ _ _ _ _ _ _
   | exact ih2 _ _ _ _ _ _ _
   | exact ih3 _ _ _ _ _ _ _
   | exact ih4 _ _ _ _ _ _ _ _
   | exact ih5 _ _ _ _ _ _ _
   | exact ih6 _ _ _ _ _ _ _ _
   | exact LeO.none _
   | refine LeO.ite ?_ ?_
   | refine LeO.bind ?_ (fun _ => ?_)
  ·intro y0 y1 y2 y3 y4 y5 y6
   unfold pomaderef07_product.l2
   repeat' first
   | (with_reducible exact ih0 _ _ _ _ _ _)
   | (with_reducible exact ih1 _ _ _ _ _ _ _)
   | (with_reducible exact ih2 _ _ _ _ _ _ _)
   | (with_reducible exact ih3 _ _ _ _ _ _ _)
   | (with_reducible exact ih4 _ _ _ _ _ _ _ _)
   | (with_reducible exact ih5 _ _ _ _ _ _ _)
   | (with_reducible exact ih6 _ _ _ _ _ _ _ _)
   | (with_reducible exact LeO.refl _)
   | (with_reducible exact LeO.none _)
   | (with_reducible refine LeO.ite ?_ ?_)
   | (with_reducible refine LeO.bind ?_ (fun _ => ?_))
   | exact ih0 _ _ _ _ _ _
   | exact ih1 _ _ _ _ _ _ _
   | exact ih2 _ _ _ _ _ _ _
   | exact ih3 _ _ _ _ _ _ _
   | exact ih4 _ _ _ _ _ _ _ _
   | exact ih5 _ _ _ _ _ _ _
   | exact ih6 _ _ _ _ _ _ _ _
   | exact LeO.none _
   | refine LeO.ite ?_ ?_
   | refine LeO.bind ?_ (fun _ => ?_)
  ·intro y0 y1 y2 y3 y4 y5 y6 y7
   unfold pomaderef07_product.l3
   repeat' first
   | (with_reducible exact ih0 _ _ _ _ _ _)
   | (with_reducible exact ih1 _ _ _ _ _ _ _)
   | (with_reducible exact ih2 _ _ _ _ _ _ _)
   | (with_reducible exact ih3 _ _ _ _ _ _ _)
   | (with_reducible exact ih4 _ _ _ _ _ _ _ _)
   | (with_reducible exact ih5 _ _ _ _ _ _ _)
   | (with_reducible exact ih6 _ _ _ _ _ _ _ _)
   | (with_reducible exact LeO.refl _)
   | (with_reducible exact LeO.none _)
   | (with_reducible refine LeO.ite ?_ ?_)
   | (with_reducible refine LeO.bind ?_ (fun _ => ?_))
   | exact ih0 _ _ _ _ _ _
   | exact ih1 _ _ _ _ _ _ _
   | exact ih2 _ _ _ _ _ _ _
   | exact ih3 _ _ _ _ _ _ _
   | exact ih4 _ _ _ _ _ _ _ _
   | exact ih5 _ _ _ _ _ _ _
   | exact ih6 _ _ _ _ _ _ _ _
   | exact LeO.none _
   | refine LeO.ite ?_ ?_
   | refine LeO.bind ?_ (fun _ => ?_)
theorem pomaderef07_product.mono : ∀ a0 a1 k, LeO (pomaderef07_product.f k a0 a1) (pomaderef07_product.f (k + 1) a0 a1) := by
 intro a0 a1 k
 obtain ⟨ih0, ih1, ih2, ih3, ih4, ih5, ih6⟩ := pomaderef07_product.mono_l k
 unfold pomaderef07_product.f
 repeat' first
   | (with_reducible exact ih0 _ _ _ _ _ _)
   | (with_reducible exact ih1 _ _ _ _ _ _ _)
   | (with_reducible exact ih2 _ _ _ _ _ _ _)
   | (with_reducible exact ih3 _ _ _ _ _ _ _)
   | (with_reducible exact ih4 _ _ _ _ _ _ _ _)
   | (with_reducible exact ih5 _ _ _ _ _ _ _)
   | (with_reducible exact ih6 _ _ _ _ _ _ _ _)
   | (with_reducible exact LeO.refl _)
   | (with_reducible exact LeO.none _)
   | (with_reducible refine LeO.ite ?_ ?_)
   | (with_reducible refine LeO.bind ?_ (fun _ => ?_))
   | exact ih0 _ _ _ _ _ _
   | exact ih1 _ _ _ _ _ _ _
   | exact ih2 _ _ _ _ _ _ _
   | exact ih3 _ _ _ _ _ _ _
   | exact ih4 _ _ _ _ _ _ _ _
   | exact ih5 _ _ _ _ _ _ _
   | exact ih6 _ _ _ _ _ _ _ _
   | exact LeO.none _
   | refine LeO.ite ?_ ?_
   | refine LeO.bind ?_ (fun _ => ?_)
set_option maxHeartbeats 8000000 in
set_option maxRecDepth 100000 in
theorem pomaderef07_product.calls (k : Nat) (A0 : Option Addr) (c0 : Nat) (l0 : List Int) (A1 : Option Addr) (c1 : Nat) (l1 : List Int) (r1 : List Int) (r2 : Int) (w : World) (hr0 : Kd.C (Kd.int .i64) w A0 l0.length l0) (hc0 : l0.length ≤ c0) (hr1 : Kd.C (Kd.int .i64) w A1 l1.length l1) (hc1 : l1.length ≤ c1) (h : pomaderef07_product.f k l0 l1 = some (r1, r2)) :
  Calls Try.prog 58 #[.slice A0 l0.length c0, .slice A1 l1.length c1] w fun e w' => ∃ v0_ : Value, e = .returned (.tuple #[v0_, .int .i64 r2]) ∧ Kd.R (Kd.int .i64) 3 w' w.heap.size (fun _ => True) v0_ r1 ∧ Below w.heap.size w w' := by
 have HR0 := Aside0.mk hr0
 have HC0 := Aside0.mk hc0
 clear hr0 hc0
 have HR1 := Aside0.mk hr1
 have HC1 := Aside0.mk hc1
 clear hr1 hc1
 have HB := Aside0.mk (Below.refl w.heap.size w)
 have H : (if 0 ≤ (wrap64 (4 * (wrap64 ((l0.length : Int) / 2)))) then (if (wrap64 (4 * (wrap64 ((l0.length : Int) / 2))) : Int).toNat ≤ 281474976710656 then (if 0 ≤ (wrap64 (2 * (wrap64 ((l0.length : Int) / 2)))) then (if (wrap64 (2 * (wrap64 ((l0.length : Int) / 2))) : Int).toNat ≤ 35184372088832 then (pomaderef07_product.l0 k l0 l1 (wrap64 ((l0.length : Int) / 2)) (List.replicate (wrap64 (4 * (wrap64 ((l0.length : Int) / 2))) : Int).toNat false) (List.replicate (wrap64 (2 * (wrap64 ((l0.length : Int) / 2))) : Int).toNat 0) 0) else (none)) else (none)) else (none)) else (none)) = some (r1, r2) := h
 clear h
 obtain ⟨ji3, hji3⟩ : ∃ j_ : Int, (wrap64 (4 * (wrap64 ((l0.length : Int) / 2)))) = j_ := ⟨_, rfl⟩
 replace H : (if 0 ≤ (ji3) then (if (ji3 : Int).toNat ≤ 281474976710656 then (if 0 ≤ (wrap64 (2 * (wrap64 ((l0.length : Int) / 2)))) then (if (wrap64 (2 * (wrap64 ((l0.length : Int) / 2))) : Int).toNat ≤ 35184372088832 then (pomaderef07_product.l0 k l0 l1 (wrap64 ((l0.length : Int) / 2)) (List.replicate (ji3 : Int).toNat false) (List.replicate (wrap64 (2 * (wrap64 ((l0.length : Int) / 2))) : Int).toNat 0) 0) else (none)) else (none)) else (none)) else (none)) = some (r1, r2) := by first | (rw [hji3] at H; exact H) | (simp only [hji3] at H ⊢; exact H)
 have hji3w : (IntKind.i64.wrap (4 * (wrap64 ((l0.length : Int) / 2)))) = ji3 := (i64_w _).trans hji3
 by_cases c4 : 0 ≤ (ji3)
 ·rw [if_pos c4] at H
  have c4b0 := eq_true c4
  have c4b1 : decide (0 ≤ (ji3)) = true := decide_eq_true c4
  clear c4
  by_cases c5 : (ji3 : Int).toNat ≤ 281474976710656
  ·rw [if_pos c5] at H
   have c5b0 := eq_true c5
   have c5b1 : decide ((ji3 : Int).toNat ≤ 281474976710656) = true := decide_eq_true c5
   clear c5
   obtain ⟨y276, hy276⟩ : ∃ y_ : List Bool, y_ = (List.replicate (ji3 : Int).toNat false) := ⟨_, rfl⟩
   replace H : (if 0 ≤ (wrap64 (2 * (wrap64 ((l0.length : Int) / 2)))) then (if (wrap64 (2 * (wrap64 ((l0.length : Int) / 2))) : Int).toNat ≤ 35184372088832 then (pomaderef07_product.l0 k l0 l1 (wrap64 ((l0.length : Int) / 2)) y276 (List.replicate (wrap64 (2 * (wrap64 ((l0.length : Int) / 2))) : Int).toNat 0) 0) else (none)) else (none)) = some (r1, r2) := by first | (rw [hy276]; with_reducible exact H) | (have H2_ := (Option.bind_some _ _).symm.trans H; rw [hy276]; with_reducible exact H2_) | (have H2_ := (Option.bind_some _ _).symm.trans H; with_reducible exact H2_) | with_reducible exact H | (rw [hy276]; exact H) | exact H
   have Ny276 := Aside0.mk hy276
   clear hy276
   obtain ⟨ji6, hji6⟩ : ∃ j_ : Int, (wrap64 (2 * (wrap64 ((l0.length : Int) / 2)))) = j_ := ⟨_, rfl⟩
   replace H : (if 0 ≤ (ji6) then (if (ji6 : Int).toNat ≤ 35184372088832 then (pomaderef07_product.l0 k l0 l1 (wrap64 ((l0.length : Int) / 2)) y276 (List.replicate (ji6 : Int).toNat 0) 0) else (none)) else (none)) = some (r1, r2) := by first | (rw [hji6] at H; exact H) | (simp only [hji6] at H ⊢; exact H)
   have hji6w : (IntKind.i64.wrap (2 * (wrap64 ((l0.length : Int) / 2)))) = ji6 := (i64_w _).trans hji6
   (try simp only [hji3] at hji6)
   (try simp only [hji3] at hji6w)
   by_cases c7 : 0 ≤ (ji6)
   ·rw [if_pos c7] at H
    have c7b0 := eq_true c7
    have c7b1 : decide (0 ≤ (ji6)) = true := decide_eq_true c7
    clear c7
    by_cases c8 : (ji6 : Int).toNat ≤ 35184372088832
    ·rw [if_pos c8] at H
     have c8b0 := eq_true c8
     have c8b1 : decide ((ji6 : Int).toNat ≤ 35184372088832) = true := decide_eq_true c8
     clear c8
     obtain ⟨y279, hy279⟩ : ∃ y_ : List Int, y_ = (List.replicate (ji6 : Int).toNat 0) := ⟨_, rfl⟩
     replace H : (pomaderef07_product.l0 k l0 l1 (wrap64 ((l0.length : Int) / 2)) y276 y279 0) = some (r1, r2) := by first | (rw [hy279]; with_reducible exact H) | (have H2_ := (Option.bind_some _ _).symm.trans H; rw [hy279]; with_reducible exact H2_) | (have H2_ := (Option.bind_some _ _).symm.trans H; with_reducible exact H2_) | with_reducible exact H | (rw [hy279]; exact H) | exact H
     have Ny279 := Aside0.mk hy279
     clear hy279
     have H' := Aside0.mk H
     clear H
     go_enter Try.func58, Try.ntmps58
     go_wp2_with (first | ((with_reducible refine gate_dst (N := 19) rfl ?_); refine Kd.R_make Kd.bool _ 4 rfl (N := 19) rfl 69 _ _ rfl ji3 rfl rfl Try.underlying69 (.bool false) 1 info4 rfl (by decide) (by omega) false (ok := fun _ => True) (okp := fun _ => True) rfl (fun _ hk => hk) trivial (of_decide_eq_true (by first | (with_reducible assumption) | assumption)) (Nat.le_trans (Nat.mul_le_mul_right _ (of_decide_eq_true (by first | (with_reducible assumption) | assumption) : ji3.toNat ≤ 281474976710656)) (by omega)) (Below.refl _ _) (Nat.le_refl _) ?_; intro v277 w9 ho10 hb hg_ hnew_; clear hg_ hnew_; (first | rw [← Ny276.out] at ho10 | (simp only [Int.reduceToNat] at ho10; rw [← Ny276.out] at ho10)); have n0_ := Aside0.mk (Kd.R_lower ho10 (below_size (by repeat (first | (with_reducible first | exact HB.out | apply below_alloc | apply pw_below_drewN | apply below_drew1) | exact HB.out)))); have n1_ := Aside0.mk (below_step (by repeat (first | (with_reducible first | exact HB.out | apply below_alloc | apply pw_below_drewN | apply below_drew1) | exact HB.out)) hb); clear HB; have HO278 := n0_; have HB := n1_; clear n0_ n1_; clear hb ho10) | ((with_reducible refine gate_dst (N := 22) rfl ?_); refine Kd.R_make (Kd.int .i64) _ 3 rfl (N := 22) rfl 22 _ _ rfl ji6 rfl rfl Try.underlying22 (.int .i64 0) 8 info3 rfl (by decide) (by omega) 0 (ok := fun _ => True) (okp := fun _ => True) rfl (fun _ hk => hk) trivial (of_decide_eq_true (by first | (with_reducible assumption) | assumption)) (Nat.le_trans (Nat.mul_le_mul_right _ (of_decide_eq_true (by first | (with_reducible assumption) | assumption) : ji6.toNat ≤ 35184372088832)) (by omega)) (Below.refl _ _) (Nat.le_refl _) ?_; intro v280 w11 ho12 hb hg_ hnew_; clear hg_ hnew_; (first | rw [← Ny279.out] at ho12 | (simp only [Int.reduceToNat] at ho12; rw [← Ny279.out] at ho12)); have n0_ := Aside0.mk (Kd.R_below (by (with_reducible repeat (first | apply Kd.R_alloc | apply Kd.R_drewN | apply Kd.R_drew)); exact HO278.out) hb); have n1_ := Aside0.mk (Kd.R_lower ho12 (below_size (by repeat (first | (with_reducible first | exact HB.out | apply below_alloc | apply pw_below_drewN | apply below_drew1) | exact HB.out)))); have n2_ := Aside0.mk (below_step (by repeat (first | (with_reducible first | exact HB.out | apply below_alloc | apply pw_below_drewN | apply below_drew1) | exact HB.out)) hb); clear HO278; clear HB; have HO278 := n0_; have HO281 := n1_; have HB := n2_; clear n0_ n1_ n2_; clear hb ho12))
     go_loopg [9] k (fun kq v9 w' => ∃ (x7_1 : List Bool) (x8_1 : List Int) (x9_1 : Int), v9 = .int .i64 x9_1 ∧ Aside0 (pomaderef07_product.l0 kq l0 l1 (wrap64 ((l0.length : Int) / 2)) x7_1 x8_1 x9_1 = some (r1, r2)) ∧ Aside0 (kq ≤ k) ∧ Aside0 (Kd.R Kd.bool 4 w' w.heap.size (fun _ => True) v277 x7_1) ∧ Aside0 (Kd.R (Kd.int .i64) 3 w' w.heap.size (fun _ => True) v280 x8_1) ∧ Aside0 (Below w.heap.size w w'))
     case atStart => exact ⟨(y276), (y279), (0), (by first | rfl | (simp; done) | (simp [*]; done)), H', ⟨Nat.le_refl _⟩, ⟨by (with_reducible repeat (first | apply Kd.R_alloc | apply Kd.R_drewN | apply Kd.R_drew)); exact HO278.out⟩, ⟨by (with_reducible repeat (first | apply Kd.R_alloc | apply Kd.R_drewN | apply Kd.R_drew)); exact HO281.out⟩, ⟨by repeat (first | (with_reducible first | exact HB.out | apply below_alloc | apply pw_below_drewN | apply below_drew1) | exact HB.out)⟩⟩
     case round =>
      clear H'
      try clear c1
      try clear p2
      try clear c4
      try clear c4b0
      try clear c4b1
      try clear c5
      try clear c5b0
      try clear c5b1
      try clear p6
      try clear c7
      try clear c7b0
      try clear c7b1
      try clear c8
      try clear c8b0
      try clear c8b1
      obtain ⟨x7_1, x8_1, x9_1, rfl, HA, HK1, HO_7, HO_8, HB⟩ := hrel
      cases gk with
      | zero => exact absurd HA.out (by simp [pomaderef07_product.l0])
      | succ k1 =>
       have H := HA.out
       clear HA
       simp only [pomaderef07_product.l0] at H
       by_cases c13 : x9_1 < (wrap64 (2 * (wrap64 ((l0.length : Int) / 2))))
       ·rw [if_pos c13] at H
        have c13b0 : decide (x9_1 < (wrap64 (2 * (wrap64 ((l0.length : Int) / 2))))) = true := decide_eq_true c13
        (try simp only [hji3] at c13b0)
        (try simp only [hji6] at c13b0)
        clear c13
        have HC14 := Aside0.mk H
        clear H
        go_upto_if 32 with (fail)
        go_cut [10] (fun v10 wc => ∃ (kq : Nat) (x10_13 : Int), v10 = .int .i64 x10_13 ∧ Aside0 (pomaderef07_product.j1 kq l0 l1 (wrap64 ((l0.length : Int) / 2)) x7_1 x8_1 x9_1 x10_13 = some (r1, r2)) ∧ Aside0 (kq ≤ k1) ∧ Aside0 (Kd.R Kd.bool 4 wc w.heap.size (fun _ => True) v277 x7_1) ∧ Aside0 (Kd.R (Kd.int .i64) 3 wc w.heap.size (fun _ => True) v280 x8_1) ∧ Aside0 (Below w.heap.size w wc))
        case first =>
         have H := HC14.out
         clear HC14
         by_cases c15 : x9_1 ≥ (wrap64 ((l0.length : Int) / 2))
         ·rw [if_pos c15] at H
          have c15b0 : decide ((wrap64 ((l0.length : Int) / 2)) ≤ x9_1) = true := decide_eq_true c15
          (try simp only [hji3] at c15b0)
          (try simp only [hji6] at c15b0)
          clear c15
          (first | rw [c15b0] | (simp only [i64_w, i32_w]; rw [c15b0]) | skip)
          have H' := Aside0.mk H
          clear H
          go_wp2
          go_meet
          case rel => exact ⟨_, (wrap64 (x9_1 + (wrap64 (2 * (wrap64 ((l0.length : Int) / 2)))))), (by first | rfl | (simp; done) | (simp [*]; done)), H', ⟨by have := HK1.out; first | omega | exact Nat.le_refl _⟩, ⟨by (with_reducible repeat (first | apply Kd.R_alloc | apply Kd.R_drewN | apply Kd.R_drew)); exact HO_7.out⟩, ⟨by (with_reducible repeat (first | apply Kd.R_alloc | apply Kd.R_drewN | apply Kd.R_drew)); exact HO_8.out⟩, ⟨by repeat (first | (with_reducible first | exact HB.out | apply below_alloc | apply pw_below_drewN | apply below_drew1) | exact HB.out)⟩⟩
         ·rw [if_neg c15] at H
          have c15b0 : decide ((wrap64 ((l0.length : Int) / 2)) ≤ x9_1) = false := decide_eq_false c15
          (try simp only [hji3] at c15b0)
          (try simp only [hji6] at c15b0)
          clear c15
          (first | rw [c15b0] | (simp only [i64_w, i32_w]; rw [c15b0]) | skip)
          have H' := Aside0.mk H
          clear H
          go_wp2
          go_meet
          case rel => exact ⟨_, (x9_1), (by first | rfl | (simp; done) | (simp [*]; done)), H', ⟨by have := HK1.out; first | omega | exact Nat.le_refl _⟩, ⟨by (with_reducible repeat (first | apply Kd.R_alloc | apply Kd.R_drewN | apply Kd.R_drew)); exact HO_7.out⟩, ⟨by (with_reducible repeat (first | apply Kd.R_alloc | apply Kd.R_drewN | apply Kd.R_drew)); exact HO_8.out⟩, ⟨by repeat (first | (with_reducible first | exact HB.out | apply below_alloc | apply pw_below_drewN | apply below_drew1) | exact HB.out)⟩⟩
        case rest =>
         clear HC14
         try clear c1
         try clear p2
         try clear c4
         try clear c4b0
         try clear c4b1
         try clear c5
         try clear c5b0
         try clear c5b1
         try clear p6
         try clear c7
         try clear c7b0
         try clear c7b1
         try clear c8
         try clear c8b0
         try clear c8b1
         try clear c13
         try clear c13b0
         try clear c15
         try clear c15b0
         try clear p2
         try clear p6
         obtain ⟨kq, x10_13, rfl, HA, HJ13, HO_7, HO_8, HB⟩ := hcut
         cases kq with
         | zero => exact absurd HA.out (by simp [pomaderef07_product.j1])
         | succ kj13 =>
          have H := HA.out
          clear HA
          simp only [pomaderef07_product.j1] at H
          by_cases c16 : 0 ≤ x10_13
          ·rw [if_pos c16] at H
           have c16b0 : decide (0 ≤ x10_13) = true := decide_eq_true c16
           clear c16
           by_cases c17 : x10_13 < (x7_1.length : Int)
           ·rw [if_pos c17] at H
            have c17b0 : decide (x10_13 < (x7_1.length : Int)) = true := decide_eq_true c17
            clear c17
            obtain ⟨y282, hy282⟩ : ∃ y_ : List Bool, y_ = (x7_1.set (x10_13 : Int).toNat true) := ⟨_, rfl⟩
            replace H : (pomaderef07_product.l1 kj13 l0 l1 (wrap64 ((l0.length : Int) / 2)) y282 x8_1 x9_1 x10_13) = some (r1, r2) := by first | (rw [hy282]; with_reducible exact H) | (have H2_ := (Option.bind_some _ _).symm.trans H; rw [hy282]; with_reducible exact H2_) | (have H2_ := (Option.bind_some _ _).symm.trans H; with_reducible exact H2_) | with_reducible exact H | (rw [hy282]; exact H) | exact H
            have Ny282 := Aside0.mk hy282
            clear hy282
            have H' := Aside0.mk H
            clear H
            have p18 : 0 ≤ (x10_13 : Int) := of_decide_eq_true (by first | (with_reducible assumption) | assumption)
            have q18 : (x10_13 : Int) < ((x7_1.length : Int) : Int) := of_decide_eq_true (by first | (with_reducible assumption) | assumption)
            obtain ⟨go18, co18, eo18, gb18, gl18, cl18, HG18⟩ := Kd.R_form HO_7.out (by omega)
            (first | cases eo18 | (injection eo18 with ea_ en_ ec_; (first | subst ea_ | (injection ea_ with ea_; subst ea_)); subst ec_; clear en_))
            (try simp only [add_plain] at *)
            have GB18 := Aside0.mk gb18
            have GG18 := Aside0.mk HG18
            clear gb18 gl18 HG18
            obtain ⟨hx18_0, hf18_0⟩ := Kd.R_celln false HO_7.out (x10_13 : Int) p18 q18
            replace p18 := eq_true p18
            replace q18 := eq_true q18
            have HP19 := Kd.R_putg HO_7.out (x10_13 : Int) true
            go_wp2_with (first | ((with_reducible refine gate_store (t := 4) (p := 39) rfl ?_); refine store_event (t := 4) (p := 39) (v := ?vo_w20) (w1 := (wc.setCell ⟨go18, (x10_13 : Int).toNat, none⟩ (.bool true))) ?hg ?ho ?hn ?hr ?_; (case ho => rfl); (case hg => rfl); (case hn => rfl); (case hr => first | (go_simp; done) | (go_simp; rfl)); intro w20 hw; have hg : wc.grownBy w20 (some go18) := (by rw [hw]; exact HP19.2); have hp_ : Kd.R Kd.bool 4 w20 w.heap.size (fun _ => True) (.slice (some ⟨go18, 0, none⟩) x7_1.length co18) y282 := (by rw [hw, Ny282.out]; exact HP19.1); clear HP19; have n0_ := Aside0.mk (hp_); have n1_ := Aside0.mk (Kd.R_over' (v := (.slice (some ⟨go18, 0, none⟩) x7_1.length co18)) (by (with_reducible repeat (first | apply Kd.R_alloc | apply Kd.R_drewN | apply Kd.R_drew)); exact HO_8.out) (Kd.R_typed HO_7.out) (by decide) hg); have n2_ := Aside0.mk ((by rw [hw]; exact below_set (HB.out) GB18.out : Below w.heap.size w w20)); clear HO_7; clear HO_8; clear HB; have HO_7 := n0_; have HO_8 := n1_; have HB := n2_; clear n0_ n1_ n2_; clear hg hw hp_))
            go_loopg [10] kj13 (fun kq v10 w' => ∃ (x7_3 : List Bool) (x10_3 : Int), v10 = .int .i64 x10_3 ∧ Aside0 (pomaderef07_product.l1 kq l0 l1 (wrap64 ((l0.length : Int) / 2)) x7_3 x8_1 x9_1 x10_3 = some (r1, r2)) ∧ Aside0 (kq ≤ kj13) ∧ Aside0 (Kd.R Kd.bool 4 w' w.heap.size (fun _ => True) (.slice (some ⟨go18, 0, none⟩) x7_1.length co18) x7_3) ∧ Aside0 (Kd.R (Kd.int .i64) 3 w' w.heap.size (fun _ => True) v280 x8_1) ∧ Aside0 (Below w.heap.size w w'))
            case atStart => exact ⟨(y282), (x10_13), (by first | rfl | (simp; done) | (simp [*]; done)), H', ⟨Nat.le_refl _⟩, ⟨by (with_reducible repeat (first | apply Kd.R_alloc | apply Kd.R_drewN | apply Kd.R_drew)); exact HO_7.out⟩, ⟨by (with_reducible repeat (first | apply Kd.R_alloc | apply Kd.R_drewN | apply Kd.R_drew)); exact HO_8.out⟩, ⟨by repeat (first | (with_reducible first | exact HB.out | apply below_alloc | apply pw_below_drewN | apply below_drew1) | exact HB.out)⟩⟩
            case round =>
             clear H'
             try clear c1
             try clear p1
             try clear q1
             try clear hx1
             try clear p2
             try clear c4
             try clear c4b0
             try clear c4b1
             try clear c5
             try clear c5b0
             try clear c5b1
             try clear p6
             try clear c7
             try clear c7b0
             try clear c7b1
             try clear c8
             try clear c8b0
             try clear c8b1
             try clear c13
             try clear c13b0
             try clear c15
             try clear c15b0
             try clear c16
             try clear c16b0
             try clear c17
             try clear c17b0
             try clear p18
             try clear q18
             try clear hx18
             try clear hf18
             try clear hx18_0
             try clear p18
             try clear p2
             try clear p6
             try clear q18
             obtain ⟨x7_3, x10_3, rfl, HA, HK3, HO_7, HO_8, HB⟩ := hrel
             have hl7_3 := (Kd.R_reads' HO_7.out).1
             rw [hl7_3] at HO_7
             (try simp only [hl7_3])
             (try simp only [hl7_3] at HO_8)
             cases gk with
             | zero => exact absurd HA.out (by simp [pomaderef07_product.l1])
             | succ k3 =>
              have H := HA.out
              clear HA
              simp only [pomaderef07_product.l1] at H
              have HC21 := Aside0.mk H
              clear H
              go_upto_if 43 with (fail)
              go_cut [10] (fun v10 wc => ∃ (kq : Nat) (x10_20 : Int), v10 = .int .i64 x10_20 ∧ Aside0 (pomaderef07_product.j3 kq l0 l1 (wrap64 ((l0.length : Int) / 2)) x7_3 x8_1 x9_1 x10_20 = some (r1, r2)) ∧ Aside0 (kq ≤ k3) ∧ Aside0 (Kd.R Kd.bool 4 wc w.heap.size (fun _ => True) (.slice (some ⟨go18, 0, none⟩) x7_3.length co18) x7_3) ∧ Aside0 (Kd.R (Kd.int .i64) 3 wc w.heap.size (fun _ => True) v280 x8_1) ∧ Aside0 (Below w.heap.size w wc))
              case first =>
               have H := HC21.out
               clear HC21
               by_cases c22 : x10_3 < (wrap64 (2 * (wrap64 ((l0.length : Int) / 2))))
               ·rw [if_pos c22] at H
                have c22b0 : decide (x10_3 < (wrap64 (2 * (wrap64 ((l0.length : Int) / 2))))) = true := decide_eq_true c22
                (try simp only [hji3] at c22b0)
                (try simp only [hji6] at c22b0)
                clear c22
                (first | rw [c22b0] | (simp only [i64_w, i32_w]; rw [c22b0]) | skip)
                by_cases c23 : 0 ≤ x10_3
                ·rw [if_pos c23] at H
                 have c23b0 : decide (0 ≤ x10_3) = true := decide_eq_true c23
                 clear c23
                 by_cases c24 : x10_3 < (l0.length : Int)
                 ·rw [if_pos c24] at H
                  have c24b0 : decide (x10_3 < (l0.length : Int)) = true := decide_eq_true c24
                  clear c24
                  have H' := Aside0.mk H
                  clear H
                  have p283 : 0 ≤ (x10_3 : Int) := of_decide_eq_true (by first | (with_reducible assumption) | assumption)
                  have q283 : x10_3 < (l0.length : Int) := of_decide_eq_true (by first | (with_reducible assumption) | assumption)
                  obtain ⟨ad283, e283, hx283_0⟩ := Kd.at_int HR0.out x10_3 p283 q283
                  cases e283
                  replace hx283_0 := (HB.out.cell (World.block_lt_of_cell? w _ hx283_0)).trans hx283_0
                  replace p283 := eq_true p283
                  replace q283 := eq_true q283
                  go_wp2
                  go_meet
                  case rel => exact ⟨_, (rd l0 x10_3), (by first | rfl | (simp; done) | (simp [*]; done)), H', ⟨by have := HK1.out; have := HJ13.out; have := HK3.out; first | omega | exact Nat.le_refl _⟩, ⟨by (try simp only [hl7_3]); (with_reducible repeat (first | apply Kd.R_alloc | apply Kd.R_drewN | apply Kd.R_drew)); exact HO_7.out⟩, ⟨by (try simp only [hl7_3]); (with_reducible repeat (first | apply Kd.R_alloc | apply Kd.R_drewN | apply Kd.R_drew)); exact HO_8.out⟩, ⟨by repeat (first | (with_reducible first | exact HB.out | apply below_alloc | apply pw_below_drewN | apply below_drew1) | exact HB.out)⟩⟩
                 ·rw [if_neg c24] at H
                  exact absurd H (by simp)
                ·rw [if_neg c23] at H
                 exact absurd H (by simp)
               ·rw [if_neg c22] at H
                have c22b0 : decide (x10_3 < (wrap64 (2 * (wrap64 ((l0.length : Int) / 2))))) = false := decide_eq_false c22
                (try simp only [hji3] at c22b0)
                (try simp only [hji6] at c22b0)
                clear c22
                (first | rw [c22b0] | (simp only [i64_w, i32_w]; rw [c22b0]) | skip)
                obtain ⟨ji25, hji25⟩ : ∃ j_ : Int, (wrap64 (x10_3 - (wrap64 (2 * (wrap64 ((l0.length : Int) / 2)))))) = j_ := ⟨_, rfl⟩
                replace H : (if 0 ≤ (ji25) then (if (ji25) < (l1.length : Int) then (pomaderef07_product.j3 k3 l0 l1 (wrap64 ((l0.length : Int) / 2)) x7_3 x8_1 x9_1 (wrap64 ((wrap64 (2 * (wrap64 ((l0.length : Int) / 2)))) + (rd l1 (ji25))))) else (none)) else (none)) = some (r1, r2) := by first | (rw [hji25] at H; exact H) | (simp only [hji25] at H ⊢; exact H)
                have hji25w : (IntKind.i64.wrap (x10_3 - (wrap64 (2 * (wrap64 ((l0.length : Int) / 2)))))) = ji25 := (i64_w _).trans hji25
                (try simp only [hji3] at hji25)
                (try simp only [hji3] at hji25w)
                (try simp only [hji6] at hji25)
                (try simp only [hji6] at hji25w)
                by_cases c26 : 0 ≤ (ji25)
                ·rw [if_pos c26] at H
                 have c26b0 : decide (0 ≤ (ji25)) = true := decide_eq_true c26
                 clear c26
                 by_cases c27 : (ji25) < (l1.length : Int)
                 ·rw [if_pos c27] at H
                  have c27b0 : decide ((ji25) < (l1.length : Int)) = true := decide_eq_true c27
                  clear c27
                  have H' := Aside0.mk H
                  clear H
                  have p284 : 0 ≤ ((ji25) : Int) := of_decide_eq_true (by first | (with_reducible assumption) | assumption)
                  have q284 : (ji25) < (l1.length : Int) := of_decide_eq_true (by first | (with_reducible assumption) | assumption)
                  obtain ⟨ad284, e284, hx284_0⟩ := Kd.at_int HR1.out (ji25) p284 q284
                  cases e284
                  replace hx284_0 := (HB.out.cell (World.block_lt_of_cell? w _ hx284_0)).trans hx284_0
                  replace p284 := eq_true p284
                  replace q284 := eq_true q284
                  go_wp2
                  go_meet
                  case rel => exact ⟨_, (wrap64 ((wrap64 (2 * (wrap64 ((l0.length : Int) / 2)))) + (rd l1 (ji25)))), (by first | rfl | (simp; done) | (simp only [hji3, hji6]; done) | (simp only [← hji25] <;> (first | rfl | simp)) | (simp [*]; done)), H', ⟨by have := HK1.out; have := HJ13.out; have := HK3.out; first | omega | exact Nat.le_refl _⟩, ⟨by (try simp only [hl7_3]); (with_reducible repeat (first | apply Kd.R_alloc | apply Kd.R_drewN | apply Kd.R_drew)); exact HO_7.out⟩, ⟨by (try simp only [hl7_3]); (with_reducible repeat (first | apply Kd.R_alloc | apply Kd.R_drewN | apply Kd.R_drew)); exact HO_8.out⟩, ⟨by repeat (first | (with_reducible first | exact HB.out | apply below_alloc | apply pw_below_drewN | apply below_drew1) | exact HB.out)⟩⟩
                 ·rw [if_neg c27] at H
                  exact absurd H (by simp)
                ·rw [if_neg c26] at H
                 exact absurd H (by simp)
              case rest =>
               clear HC21
               try clear c1
               try clear p1
               try clear q1
               try clear hx1
               try clear c2
               try clear p2
               try clear q2
               try clear hx2
               try clear c4
               try clear c4b0
               try clear c4b1
               try clear c5
               try clear c5b0
               try clear c5b1
               try clear p6
               try clear c7
               try clear c7b0
               try clear c7b1
               try clear c8
               try clear c8b0
               try clear c8b1
               try clear c13
               try clear c13b0
               try clear c15
               try clear c15b0
               try clear c16
               try clear c16b0
               try clear c17
               try clear c17b0
               try clear p18
               try clear q18
               try clear hx18
               try clear hf18
               try clear c22
               try clear c22b0
               try clear c23
               try clear c23b0
               try clear c24
               try clear c24b0
               try clear c26
               try clear c26b0
               try clear c27
               try clear c27b0
               try clear hx18_0
               try clear hx283_0
               try clear hx284_0
               try clear p1
               try clear p18
               try clear p2
               try clear p283
               try clear p284
               try clear p6
               try clear q1
               try clear q18
               try clear q283
               try clear q284
               obtain ⟨kq, x10_20, rfl, HA, HJ20, HO_7, HO_8, HB⟩ := hcut
               cases kq with
               | zero => exact absurd HA.out (by simp [pomaderef07_product.j3])
               | succ kj20 =>
                have H := HA.out
                clear HA
                simp only [pomaderef07_product.j3] at H
                by_cases c28 : 0 ≤ x10_20
                ·rw [if_pos c28] at H
                 have c28b0 : decide (0 ≤ x10_20) = true := decide_eq_true c28
                 clear c28
                 by_cases c29 : x10_20 < (x7_3.length : Int)
                 ·rw [if_pos c29] at H
                  have c29b0 : decide (x10_20 < (x7_3.length : Int)) = true := decide_eq_true c29
                  clear c29
                  obtain ⟨y285, hy285⟩ : ∃ y_ : List Bool, y_ = (x7_3.set (x10_20 : Int).toNat true) := ⟨_, rfl⟩
                  replace H : (if x10_20 < (wrap64 ((l0.length : Int) / 2)) then (pomaderef07_product.j4 kj20 l0 l1 (wrap64 ((l0.length : Int) / 2)) y285 x8_1 x9_1 x10_20 true) else (pomaderef07_product.j4 kj20 l0 l1 (wrap64 ((l0.length : Int) / 2)) y285 x8_1 x9_1 x10_20 (decide (x10_20 ≥ (wrap64 (3 * (wrap64 ((l0.length : Int) / 2)))))))) = some (r1, r2) := by first | (rw [hy285]; with_reducible exact H) | (have H2_ := (Option.bind_some _ _).symm.trans H; rw [hy285]; with_reducible exact H2_) | (have H2_ := (Option.bind_some _ _).symm.trans H; with_reducible exact H2_) | with_reducible exact H | (rw [hy285]; exact H) | exact H
                  have Ny285 := Aside0.mk hy285
                  clear hy285
                  have HC31 := Aside0.mk H
                  clear H
                  have p30 : 0 ≤ (x10_20 : Int) := of_decide_eq_true (by first | (with_reducible assumption) | assumption)
                  have q30 : (x10_20 : Int) < ((x7_3.length : Int) : Int) := of_decide_eq_true (by first | (with_reducible assumption) | assumption)
                  obtain ⟨hx30_0, hf30_0⟩ := Kd.R_celln false HO_7.out (x10_20 : Int) p30 q30
                  replace p30 := eq_true p30
                  replace q30 := eq_true q30
                  have HP32 := Kd.R_putg HO_7.out (x10_20 : Int) true
                  go_upto_region 15 with (first | ((with_reducible refine gate_store (t := 4) (p := 60) rfl ?_); refine store_event (t := 4) (p := 60) (v := ?vo_w33) (w1 := (wc.setCell ⟨go18, (x10_20 : Int).toNat, none⟩ (.bool true))) ?hg ?ho ?hn ?hr ?_; (case ho => rfl); (case hg => rfl); (case hn => rfl); (case hr => first | (go_simp; done) | (go_simp; rfl)); intro w33 hw; have hg : wc.grownBy w33 (some go18) := (by rw [hw]; exact HP32.2); have hp_ : Kd.R Kd.bool 4 w33 w.heap.size (fun _ => True) (.slice (some ⟨go18, 0, none⟩) x7_3.length co18) y285 := (by rw [hw, Ny285.out]; exact HP32.1); clear HP32; have n0_ := Aside0.mk (hp_); have n1_ := Aside0.mk (Kd.R_over' (v := (.slice (some ⟨go18, 0, none⟩) x7_3.length co18)) (by (with_reducible repeat (first | apply Kd.R_alloc | apply Kd.R_drewN | apply Kd.R_drew)); exact HO_8.out) (Kd.R_typed HO_7.out) (by decide) hg); have n2_ := Aside0.mk ((by rw [hw]; exact below_set (HB.out) GB18.out : Below w.heap.size w w33)); clear HO_7; clear HO_8; clear HB; have HO_7 := n0_; have HO_8 := n1_; have HB := n2_; clear n0_ n1_ n2_; clear hg hw hp_))
                  (try simp only [Act.put, List.setIfInBounds_toArray, List.set_cons_zero, List.set_cons_succ])
                  go_cut [69] (fun v69 wc => ∃ (kq : Nat) (x69_30 : Bool), v69 = .bool x69_30 ∧ Aside0 (pomaderef07_product.j4 kq l0 l1 (wrap64 ((l0.length : Int) / 2)) y285 x8_1 x9_1 x10_20 x69_30 = some (r1, r2)) ∧ Aside0 (kq ≤ kj20) ∧ Aside0 (Kd.R Kd.bool 4 wc w.heap.size (fun _ => True) (.slice (some ⟨go18, 0, none⟩) x7_3.length co18) y285) ∧ Aside0 (Kd.R (Kd.int .i64) 3 wc w.heap.size (fun _ => True) v280 x8_1) ∧ Aside0 (Below w.heap.size w wc))
                  case first =>
                   have H := HC31.out
                   clear HC31
                   by_cases c34 : x10_20 < (wrap64 ((l0.length : Int) / 2))
                   ·rw [if_pos c34] at H
                    have c34b0 : decide (x10_20 < (wrap64 ((l0.length : Int) / 2))) = true := decide_eq_true c34
                    (try simp only [hji3] at c34b0)
                    (try simp only [hji6] at c34b0)
                    (try simp only [hji25] at c34b0)
                    clear c34
                    (first | rw [c34b0] | (simp only [i64_w, i32_w]; rw [c34b0]) | skip)
                    have H' := Aside0.mk H
                    clear H
                    go_wp2
                    go_meet
                    case rel => exact ⟨_, (true), (by first | rfl | (simp; done) | (simp [*]; done)), H', ⟨by have := HK1.out; have := HJ13.out; have := HK3.out; have := HJ20.out; first | omega | exact Nat.le_refl _⟩, ⟨by (try simp only [hl7_3]); (with_reducible repeat (first | apply Kd.R_alloc | apply Kd.R_drewN | apply Kd.R_drew)); exact HO_7.out⟩, ⟨by (try simp only [hl7_3]); (with_reducible repeat (first | apply Kd.R_alloc | apply Kd.R_drewN | apply Kd.R_drew)); exact HO_8.out⟩, ⟨by repeat (first | (with_reducible first | exact HB.out | apply below_alloc | apply pw_below_drewN | apply below_drew1) | exact HB.out)⟩⟩
                   ·rw [if_neg c34] at H
                    have c34b0 : decide (x10_20 < (wrap64 ((l0.length : Int) / 2))) = false := decide_eq_false c34
                    (try simp only [hji3] at c34b0)
                    (try simp only [hji6] at c34b0)
                    (try simp only [hji25] at c34b0)
                    clear c34
                    (first | rw [c34b0] | (simp only [i64_w, i32_w]; rw [c34b0]) | skip)
                    have H' := Aside0.mk H
                    clear H
                    go_wp2
                    go_meet
                    case rel => exact ⟨_, (decide (x10_20 ≥ (wrap64 (3 * (wrap64 ((l0.length : Int) / 2)))))), (by first | rfl | (simp; done) | (simp [*]; done)), H', ⟨by have := HK1.out; have := HJ13.out; have := HK3.out; have := HJ20.out; first | omega | exact Nat.le_refl _⟩, ⟨by (try simp only [hl7_3]); (with_reducible repeat (first | apply Kd.R_alloc | apply Kd.R_drewN | apply Kd.R_drew)); exact HO_7.out⟩, ⟨by (try simp only [hl7_3]); (with_reducible repeat (first | apply Kd.R_alloc | apply Kd.R_drewN | apply Kd.R_drew)); exact HO_8.out⟩, ⟨by repeat (first | (with_reducible first | exact HB.out | apply below_alloc | apply pw_below_drewN | apply below_drew1) | exact HB.out)⟩⟩
                  case rest =>
                   clear HC31
                   try clear c1
                   try clear p1
                   try clear q1
                   try clear hx1
                   try clear c2
                   try clear p2
                   try clear q2
                   try clear hx2
                   try clear c3
                   try clear p3
                   try clear q3
                   try clear hx3
                   try clear hf3
                   try clear c4
                   try clear c4b0
                   try clear c4b1
                   try clear c5
                   try clear c5b0
                   try clear c5b1
                   try clear p6
                   try clear c7
                   try clear c7b0
                   try clear c7b1
                   try clear c8
                   try clear c8b0
                   try clear c8b1
                   try clear c13
                   try clear c13b0
                   try clear c15
                   try clear c15b0
                   try clear c16
                   try clear c16b0
                   try clear c17
                   try clear c17b0
                   try clear p18
                   try clear q18
                   try clear hx18
                   try clear hf18
                   try clear c22
                   try clear c22b0
                   try clear c23
                   try clear c23b0
                   try clear c24
                   try clear c24b0
                   try clear c26
                   try clear c26b0
                   try clear c27
                   try clear c27b0
                   try clear c28
                   try clear c28b0
                   try clear p28
                   try clear q28
                   try clear hx28
                   try clear c29
                   try clear c29b0
                   try clear p30
                   try clear q30
                   try clear hx30
                   try clear hf30
                   try clear c34
                   try clear c34b0
                   try clear hx18_0
                   try clear hx283_0
                   try clear hx284_0
                   try clear hx30_0
                   try clear p1
                   try clear p18
                   try clear p2
                   try clear p283
                   try clear p284
                   try clear p30
                   try clear p6
                   try clear q1
                   try clear q18
                   try clear q2
                   try clear q283
                   try clear q284
                   try clear q30
                   obtain ⟨kq, x69_30, rfl, HA, HJ30, HO_7, HO_8, HB⟩ := hcut
                   have hl7_30 := (Kd.R_reads' HO_7.out).1
                   rw [hl7_30] at HO_7
                   (try simp only [hl7_30])
                   (try simp only [hl7_30] at HO_8)
                   cases kq with
                   | zero => exact absurd HA.out (by simp [pomaderef07_product.j4])
                   | succ kj30 =>
                    have H := HA.out
                    clear HA
                    simp only [pomaderef07_product.j4] at H
                    by_cases c35 : x69_30 = true
                    ·subst c35
                     have H1 : (if x10_20 ≥ (wrap64 (3 * (wrap64 ((l0.length : Int) / 2)))) then (if 0 ≤ x9_1 then (if x9_1 < (x8_1.length : Int) then (pomaderef07_product.l0 kj30 l0 l1 (wrap64 ((l0.length : Int) / 2)) y285 (x8_1.set (x9_1 : Int).toNat (wrap64 (x10_20 - (wrap64 (2 * (wrap64 ((l0.length : Int) / 2))))))) (wrap64 (x9_1 + 1))) else (none)) else (none)) else (if 0 ≤ x9_1 then (if x9_1 < (x8_1.length : Int) then (pomaderef07_product.l0 kj30 l0 l1 (wrap64 ((l0.length : Int) / 2)) y285 (x8_1.set (x9_1 : Int).toNat x10_20) (wrap64 (x9_1 + 1))) else (none)) else (none))) = some (r1, r2) := by rw [if_pos rfl] at H; exact H
                     clear H
                     have H := H1
                     clear H1
                     by_cases c36 : x10_20 ≥ (wrap64 (3 * (wrap64 ((l0.length : Int) / 2))))
                     ·rw [if_pos c36] at H
                      have c36b0 : decide ((wrap64 (3 * (wrap64 ((l0.length : Int) / 2)))) ≤ x10_20) = true := decide_eq_true c36
                      (try simp only [hji3] at c36b0)
                      (try simp only [hji6] at c36b0)
                      (try simp only [hji25] at c36b0)
                      clear c36
                      by_cases c37 : 0 ≤ x9_1
                      ·rw [if_pos c37] at H
                       have c37b0 : decide (0 ≤ x9_1) = true := decide_eq_true c37
                       clear c37
                       by_cases c38 : x9_1 < (x8_1.length : Int)
                       ·rw [if_pos c38] at H
                        have c38b0 : decide (x9_1 < (x8_1.length : Int)) = true := decide_eq_true c38
                        clear c38
                        obtain ⟨y286, hy286⟩ : ∃ y_ : List Int, y_ = (x8_1.set (x9_1 : Int).toNat (wrap64 (x10_20 - (wrap64 (2 * (wrap64 ((l0.length : Int) / 2))))))) := ⟨_, rfl⟩
                        replace H : (pomaderef07_product.l0 kj30 l0 l1 (wrap64 ((l0.length : Int) / 2)) y285 y286 (wrap64 (x9_1 + 1))) = some (r1, r2) := by first | (rw [hy286]; with_reducible exact H) | (have H2_ := (Option.bind_some _ _).symm.trans H; rw [hy286]; with_reducible exact H2_) | (have H2_ := (Option.bind_some _ _).symm.trans H; with_reducible exact H2_) | with_reducible exact H | (rw [hy286]; exact H) | exact H
                        have Ny286 := Aside0.mk hy286
                        clear hy286
                        have H' := Aside0.mk H
                        clear H
                        have p39 : 0 ≤ (x9_1 : Int) := of_decide_eq_true (by first | (with_reducible assumption) | assumption)
                        have q39 : (x9_1 : Int) < ((x8_1.length : Int) : Int) := of_decide_eq_true (by first | (with_reducible assumption) | assumption)
                        obtain ⟨go39, co39, eo39, gb39, gl39, cl39, HG39⟩ := Kd.R_form HO_8.out (by omega)
                        (first | cases eo39 | (injection eo39 with ea_ en_ ec_; (first | subst ea_ | (injection ea_ with ea_; subst ea_)); subst ec_; clear en_))
                        (try simp only [add_plain] at *)
                        have GB39 := Aside0.mk gb39
                        have GG39 := Aside0.mk HG39
                        clear gb39 gl39 HG39
                        obtain ⟨hx39_0, hf39_0⟩ := Kd.R_celln 0 HO_8.out (x9_1 : Int) p39 q39
                        replace p39 := eq_true p39
                        replace q39 := eq_true q39
                        have HP40 := Kd.R_putg HO_8.out (x9_1 : Int) (wrap64 (x10_20 - (wrap64 (2 * (wrap64 ((l0.length : Int) / 2))))))
                        go_wp2_with (first | ((with_reducible refine gate_store (t := 3) (p := 94) rfl ?_); refine store_event (t := 3) (p := 94) (v := ?vo_w41) (w1 := (wc.setCell ⟨go39, (x9_1 : Int).toNat, none⟩ (.int .i64 (wrap64 (x10_20 - (wrap64 (2 * (wrap64 ((l0.length : Int) / 2))))))))) ?hg ?ho ?hn ?hr ?_; (case ho => rfl); (case hg => rfl); (case hn => rfl); (case hr => first | (go_simp; done) | (go_simp; rfl)); intro w41 hw; have hg : wc.grownBy w41 (some go39) := (by rw [hw]; exact HP40.2); have hp_ : Kd.R (Kd.int .i64) 3 w41 w.heap.size (fun _ => True) (.slice (some ⟨go39, 0, none⟩) x8_1.length co39) y286 := (by rw [hw, Ny286.out]; exact HP40.1); clear HP40; have n0_ := Aside0.mk (Kd.R_over' (v := (.slice (some ⟨go39, 0, none⟩) x8_1.length co39)) (by (with_reducible repeat (first | apply Kd.R_alloc | apply Kd.R_drewN | apply Kd.R_drew)); exact HO_7.out) (Kd.R_typed HO_8.out) (by decide) hg); have n1_ := Aside0.mk (hp_); have n2_ := Aside0.mk ((by rw [hw]; exact below_set (HB.out) GB39.out : Below w.heap.size w w41)); clear HO_7; clear HO_8; clear HB; have HO_7 := n0_; have HO_8 := n1_; have HB := n2_; clear n0_ n1_ n2_; clear hg hw hp_))
                        (try simp only [← hl7_3, ← hl7_30])
                        go_roundg kj30
                        case measure => have := HK1.out; have := HJ13.out; have := HK3.out; have := HJ20.out; have := HJ30.out; omega
                        case rel => exact ⟨(y285), (y286), (wrap64 (x9_1 + 1)), (by first | rfl | (simp; done) | (simp [*]; done)), H', ⟨by have := HK1.out; have := HJ13.out; have := HK3.out; have := HJ20.out; have := HJ30.out; omega⟩, ⟨by (try simp only [hl7_3]); (try simp only [hl7_30]); (with_reducible repeat (first | apply Kd.R_alloc | apply Kd.R_drewN | apply Kd.R_drew)); exact HO_7.out⟩, ⟨by (try simp only [hl7_3]); (try simp only [hl7_30]); (with_reducible repeat (first | apply Kd.R_alloc | apply Kd.R_drewN | apply Kd.R_drew)); exact HO_8.out⟩, ⟨by repeat (first | (with_reducible first | exact HB.out | apply below_alloc | apply pw_below_drewN | apply below_drew1) | exact HB.out)⟩⟩
                       ·rw [if_neg c38] at H
                        exact absurd H (by simp)
                      ·rw [if_neg c37] at H
                       exact absurd H (by simp)
                     ·rw [if_neg c36] at H
                      have c36b0 : decide ((wrap64 (3 * (wrap64 ((l0.length : Int) / 2)))) ≤ x10_20) = false := decide_eq_false c36
                      (try simp only [hji3] at c36b0)
                      (try simp only [hji6] at c36b0)
                      (try simp only [hji25] at c36b0)
                      clear c36
                      by_cases c42 : 0 ≤ x9_1
                      ·rw [if_pos c42] at H
                       have c42b0 : decide (0 ≤ x9_1) = true := decide_eq_true c42
                       clear c42
                       by_cases c43 : x9_1 < (x8_1.length : Int)
                       ·rw [if_pos c43] at H
                        have c43b0 : decide (x9_1 < (x8_1.length : Int)) = true := decide_eq_true c43
                        clear c43
                        obtain ⟨y287, hy287⟩ : ∃ y_ : List Int, y_ = (x8_1.set (x9_1 : Int).toNat x10_20) := ⟨_, rfl⟩
                        replace H : (pomaderef07_product.l0 kj30 l0 l1 (wrap64 ((l0.length : Int) / 2)) y285 y287 (wrap64 (x9_1 + 1))) = some (r1, r2) := by first | (rw [hy287]; with_reducible exact H) | (have H2_ := (Option.bind_some _ _).symm.trans H; rw [hy287]; with_reducible exact H2_) | (have H2_ := (Option.bind_some _ _).symm.trans H; with_reducible exact H2_) | with_reducible exact H | (rw [hy287]; exact H) | exact H
                        have Ny287 := Aside0.mk hy287
                        clear hy287
                        have H' := Aside0.mk H
                        clear H
                        have p44 : 0 ≤ (x9_1 : Int) := of_decide_eq_true (by first | (with_reducible assumption) | assumption)
                        have q44 : (x9_1 : Int) < ((x8_1.length : Int) : Int) := of_decide_eq_true (by first | (with_reducible assumption) | assumption)
                        obtain ⟨go44, co44, eo44, gb44, gl44, cl44, HG44⟩ := Kd.R_form HO_8.out (by omega)
                        (first | cases eo44 | (injection eo44 with ea_ en_ ec_; (first | subst ea_ | (injection ea_ with ea_; subst ea_)); subst ec_; clear en_))
                        (try simp only [add_plain] at *)
                        have GB44 := Aside0.mk gb44
                        have GG44 := Aside0.mk HG44
                        clear gb44 gl44 HG44
                        obtain ⟨hx44_0, hf44_0⟩ := Kd.R_celln 0 HO_8.out (x9_1 : Int) p44 q44
                        replace p44 := eq_true p44
                        replace q44 := eq_true q44
                        have HP45 := Kd.R_putg HO_8.out (x9_1 : Int) x10_20
                        go_wp2_with (first | ((with_reducible refine gate_store (t := 3) (p := 94) rfl ?_); refine store_event (t := 3) (p := 94) (v := ?vo_w46) (w1 := (wc.setCell ⟨go44, (x9_1 : Int).toNat, none⟩ (.int .i64 x10_20))) ?hg ?ho ?hn ?hr ?_; (case ho => rfl); (case hg => rfl); (case hn => rfl); (case hr => first | (go_simp; done) | (go_simp; rfl)); intro w46 hw; have hg : wc.grownBy w46 (some go44) := (by rw [hw]; exact HP45.2); have hp_ : Kd.R (Kd.int .i64) 3 w46 w.heap.size (fun _ => True) (.slice (some ⟨go44, 0, none⟩) x8_1.length co44) y287 := (by rw [hw, Ny287.out]; exact HP45.1); clear HP45; have n0_ := Aside0.mk (Kd.R_over' (v := (.slice (some ⟨go44, 0, none⟩) x8_1.length co44)) (by (with_reducible repeat (first | apply Kd.R_alloc | apply Kd.R_drewN | apply Kd.R_drew)); exact HO_7.out) (Kd.R_typed HO_8.out) (by decide) hg); have n1_ := Aside0.mk (hp_); have n2_ := Aside0.mk ((by rw [hw]; exact below_set (HB.out) GB44.out : Below w.heap.size w w46)); clear HO_7; clear HO_8; clear HB; have HO_7 := n0_; have HO_8 := n1_; have HB := n2_; clear n0_ n1_ n2_; clear hg hw hp_))
                        (try simp only [← hl7_3, ← hl7_30])
                        go_roundg kj30
                        case measure => have := HK1.out; have := HJ13.out; have := HK3.out; have := HJ20.out; have := HJ30.out; omega
                        case rel => exact ⟨(y285), (y287), (wrap64 (x9_1 + 1)), (by first | rfl | (simp; done) | (simp [*]; done)), H', ⟨by have := HK1.out; have := HJ13.out; have := HK3.out; have := HJ20.out; have := HJ30.out; omega⟩, ⟨by (try simp only [hl7_3]); (try simp only [hl7_30]); (with_reducible repeat (first | apply Kd.R_alloc | apply Kd.R_drewN | apply Kd.R_drew)); exact HO_7.out⟩, ⟨by (try simp only [hl7_3]); (try simp only [hl7_30]); (with_reducible repeat (first | apply Kd.R_alloc | apply Kd.R_drewN | apply Kd.R_drew)); exact HO_8.out⟩, ⟨by repeat (first | (with_reducible first | exact HB.out | apply below_alloc | apply pw_below_drewN | apply below_drew1) | exact HB.out)⟩⟩
                       ·rw [if_neg c43] at H
                        exact absurd H (by simp)
                      ·rw [if_neg c42] at H
                       exact absurd H (by simp)
                    ·replace c35 := Bool.eq_false_iff.mpr c35
                     subst c35
                     have H1 : (if x10_20 < (wrap64 (2 * (wrap64 ((l0.length : Int) / 2)))) then (if 0 ≤ (wrap64 (x10_20 + (wrap64 ((l0.length : Int) / 2)))) then (if (wrap64 (x10_20 + (wrap64 ((l0.length : Int) / 2)))) < (y285.length : Int) then (pomaderef07_product.l1 kj30 l0 l1 (wrap64 ((l0.length : Int) / 2)) (y285.set ((wrap64 (x10_20 + (wrap64 ((l0.length : Int) / 2)))) : Int).toNat true) x8_1 x9_1 (wrap64 (x10_20 + (wrap64 ((l0.length : Int) / 2))))) else (none)) else (none)) else (if 0 ≤ (wrap64 (x10_20 - (wrap64 ((l0.length : Int) / 2)))) then (if (wrap64 (x10_20 - (wrap64 ((l0.length : Int) / 2)))) < (y285.length : Int) then (pomaderef07_product.l1 kj30 l0 l1 (wrap64 ((l0.length : Int) / 2)) (y285.set ((wrap64 (x10_20 - (wrap64 ((l0.length : Int) / 2)))) : Int).toNat true) x8_1 x9_1 (wrap64 (x10_20 - (wrap64 ((l0.length : Int) / 2))))) else (none)) else (none))) = some (r1, r2) := by rw [if_neg (show ¬ (false = true) by decide)] at H; exact H
                     clear H
                     have H := H1
                     clear H1
                     by_cases c47 : x10_20 < (wrap64 (2 * (wrap64 ((l0.length : Int) / 2))))
                     ·rw [if_pos c47] at H
                      have c47b0 : decide (x10_20 < (wrap64 (2 * (wrap64 ((l0.length : Int) / 2))))) = true := decide_eq_true c47
                      (try simp only [hji3] at c47b0)
                      (try simp only [hji6] at c47b0)
                      (try simp only [hji25] at c47b0)
                      clear c47
                      obtain ⟨ji48, hji48⟩ : ∃ j_ : Int, (wrap64 (x10_20 + (wrap64 ((l0.length : Int) / 2)))) = j_ := ⟨_, rfl⟩
                      replace H : (if 0 ≤ (ji48) then (if (ji48) < (y285.length : Int) then (pomaderef07_product.l1 kj30 l0 l1 (wrap64 ((l0.length : Int) / 2)) (y285.set ((ji48) : Int).toNat true) x8_1 x9_1 ji48) else (none)) else (none)) = some (r1, r2) := by first | (rw [hji48] at H; exact H) | (simp only [hji48] at H ⊢; exact H)
                      have hji48w : (IntKind.i64.wrap (x10_20 + (wrap64 ((l0.length : Int) / 2)))) = ji48 := (i64_w _).trans hji48
                      (try simp only [hji3] at hji48)
                      (try simp only [hji3] at hji48w)
                      (try simp only [hji6] at hji48)
                      (try simp only [hji6] at hji48w)
                      (try simp only [hji25] at hji48)
                      (try simp only [hji25] at hji48w)
                      by_cases c49 : 0 ≤ (ji48)
                      ·rw [if_pos c49] at H
                       have c49b0 : decide (0 ≤ (ji48)) = true := decide_eq_true c49
                       clear c49
                       by_cases c50 : (ji48) < (y285.length : Int)
                       ·rw [if_pos c50] at H
                        have c50b0 : decide ((ji48) < (y285.length : Int)) = true := decide_eq_true c50
                        clear c50
                        obtain ⟨y288, hy288⟩ : ∃ y_ : List Bool, y_ = (y285.set ((ji48) : Int).toNat true) := ⟨_, rfl⟩
                        replace H : (pomaderef07_product.l1 kj30 l0 l1 (wrap64 ((l0.length : Int) / 2)) y288 x8_1 x9_1 ji48) = some (r1, r2) := by first | (rw [hy288]; with_reducible exact H) | (have H2_ := (Option.bind_some _ _).symm.trans H; rw [hy288]; with_reducible exact H2_) | (have H2_ := (Option.bind_some _ _).symm.trans H; with_reducible exact H2_) | with_reducible exact H | (rw [hy288]; exact H) | exact H
                        have Ny288 := Aside0.mk hy288
                        clear hy288
                        have H' := Aside0.mk H
                        clear H
                        have p51 : 0 ≤ ((ji48) : Int) := of_decide_eq_true (by first | (with_reducible assumption) | assumption)
                        have q51 : ((ji48) : Int) < ((y285.length : Int) : Int) := of_decide_eq_true (by first | (with_reducible assumption) | assumption)
                        obtain ⟨hx51_0, hf51_0⟩ := Kd.R_celln false HO_7.out ((ji48) : Int) p51 q51
                        replace p51 := eq_true p51
                        replace q51 := eq_true q51
                        have HP52 := Kd.R_putg HO_7.out ((ji48) : Int) true
                        go_wp2_with (first | ((with_reducible refine gate_store (t := 4) (p := 82) rfl ?_); refine store_event (t := 4) (p := 82) (v := ?vo_w53) (w1 := (wc.setCell ⟨go18, ((ji48) : Int).toNat, none⟩ (.bool true))) ?hg ?ho ?hn ?hr ?_; (case ho => rfl); (case hg => rfl); (case hn => rfl); (case hr => first | (go_simp; done) | (go_simp; rfl)); intro w53 hw; have hg : wc.grownBy w53 (some go18) := (by rw [hw]; exact HP52.2); have hp_ : Kd.R Kd.bool 4 w53 w.heap.size (fun _ => True) (.slice (some ⟨go18, 0, none⟩) y285.length co18) y288 := (by rw [hw, Ny288.out]; exact HP52.1); clear HP52; have n0_ := Aside0.mk (hp_); have n1_ := Aside0.mk (Kd.R_over' (v := (.slice (some ⟨go18, 0, none⟩) y285.length co18)) (by (with_reducible repeat (first | apply Kd.R_alloc | apply Kd.R_drewN | apply Kd.R_drew)); exact HO_8.out) (Kd.R_typed HO_7.out) (by decide) hg); have n2_ := Aside0.mk ((by rw [hw]; exact below_set (HB.out) GB18.out : Below w.heap.size w w53)); clear HO_7; clear HO_8; clear HB; have HO_7 := n0_; have HO_8 := n1_; have HB := n2_; clear n0_ n1_ n2_; clear hg hw hp_))
                        (try simp only [← hl7_3, ← hl7_30])
                        go_roundg kj30
                        case measure => have := HK1.out; have := HJ13.out; have := HK3.out; have := HJ20.out; have := HJ30.out; omega
                        case rel => exact ⟨(y288), (ji48), (by first | rfl | (simp; done) | (simp only [hji3, hji6]; done) | (simp only [← hji48] <;> (first | rfl | simp)) | (simp [*]; done)), H', ⟨by have := HK1.out; have := HJ13.out; have := HK3.out; have := HJ20.out; have := HJ30.out; omega⟩, ⟨by (try simp only [hl7_3]); (try simp only [hl7_30]); (with_reducible repeat (first | apply Kd.R_alloc | apply Kd.R_drewN | apply Kd.R_drew)); exact HO_7.out⟩, ⟨by (try simp only [hl7_3]); (try simp only [hl7_30]); (with_reducible repeat (first | apply Kd.R_alloc | apply Kd.R_drewN | apply Kd.R_drew)); exact HO_8.out⟩, ⟨by repeat (first | (with_reducible first | exact HB.out | apply below_alloc | apply pw_below_drewN | apply below_drew1) | exact HB.out)⟩⟩
                       ·rw [if_neg c50] at H
                        exact absurd H (by simp)
                      ·rw [if_neg c49] at H
                       exact absurd H (by simp)
                     ·rw [if_neg c47] at H
                      have c47b0 : decide (x10_20 < (wrap64 (2 * (wrap64 ((l0.length : Int) / 2))))) = false := decide_eq_false c47
                      (try simp only [hji3] at c47b0)
                      (try simp only [hji6] at c47b0)
                      (try simp only [hji25] at c47b0)
                      (try simp only [hji48] at c47b0)
                      clear c47
                      obtain ⟨ji54, hji54⟩ : ∃ j_ : Int, (wrap64 (x10_20 - (wrap64 ((l0.length : Int) / 2)))) = j_ := ⟨_, rfl⟩
                      replace H : (if 0 ≤ (ji54) then (if (ji54) < (y285.length : Int) then (pomaderef07_product.l1 kj30 l0 l1 (wrap64 ((l0.length : Int) / 2)) (y285.set ((ji54) : Int).toNat true) x8_1 x9_1 ji54) else (none)) else (none)) = some (r1, r2) := by first | (rw [hji54] at H; exact H) | (simp only [hji54] at H ⊢; exact H)
                      have hji54w : (IntKind.i64.wrap (x10_20 - (wrap64 ((l0.length : Int) / 2)))) = ji54 := (i64_w _).trans hji54
                      (try simp only [hji3] at hji54)
                      (try simp only [hji3] at hji54w)
                      (try simp only [hji6] at hji54)
                      (try simp only [hji6] at hji54w)
                      (try simp only [hji25] at hji54)
                      (try simp only [hji25] at hji54w)
                      (try simp only [hji48] at hji54)
                      (try simp only [hji48] at hji54w)
                      by_cases c55 : 0 ≤ (ji54)
                      ·rw [if_pos c55] at H
                       have c55b0 : decide (0 ≤ (ji54)) = true := decide_eq_true c55
                       clear c55
                       by_cases c56 : (ji54) < (y285.length : Int)
                       ·rw [if_pos c56] at H
                        have c56b0 : decide ((ji54) < (y285.length : Int)) = true := decide_eq_true c56
                        clear c56
                        obtain ⟨y289, hy289⟩ : ∃ y_ : List Bool, y_ = (y285.set ((ji54) : Int).toNat true) := ⟨_, rfl⟩
                        replace H : (pomaderef07_product.l1 kj30 l0 l1 (wrap64 ((l0.length : Int) / 2)) y289 x8_1 x9_1 ji54) = some (r1, r2) := by first | (rw [hy289]; with_reducible exact H) | (have H2_ := (Option.bind_some _ _).symm.trans H; rw [hy289]; with_reducible exact H2_) | (have H2_ := (Option.bind_some _ _).symm.trans H; with_reducible exact H2_) | with_reducible exact H | (rw [hy289]; exact H) | exact H
                        have Ny289 := Aside0.mk hy289
                        clear hy289
                        have H' := Aside0.mk H
                        clear H
                        have p57 : 0 ≤ ((ji54) : Int) := of_decide_eq_true (by first | (with_reducible assumption) | assumption)
                        have q57 : ((ji54) : Int) < ((y285.length : Int) : Int) := of_decide_eq_true (by first | (with_reducible assumption) | assumption)
                        obtain ⟨hx57_0, hf57_0⟩ := Kd.R_celln false HO_7.out ((ji54) : Int) p57 q57
                        replace p57 := eq_true p57
                        replace q57 := eq_true q57
                        have HP58 := Kd.R_putg HO_7.out ((ji54) : Int) true
                        go_wp2_with (first | ((with_reducible refine gate_store (t := 4) (p := 82) rfl ?_); refine store_event (t := 4) (p := 82) (v := ?vo_w59) (w1 := (wc.setCell ⟨go18, ((ji54) : Int).toNat, none⟩ (.bool true))) ?hg ?ho ?hn ?hr ?_; (case ho => rfl); (case hg => rfl); (case hn => rfl); (case hr => first | (go_simp; done) | (go_simp; rfl)); intro w59 hw; have hg : wc.grownBy w59 (some go18) := (by rw [hw]; exact HP58.2); have hp_ : Kd.R Kd.bool 4 w59 w.heap.size (fun _ => True) (.slice (some ⟨go18, 0, none⟩) y285.length co18) y289 := (by rw [hw, Ny289.out]; exact HP58.1); clear HP58; have n0_ := Aside0.mk (hp_); have n1_ := Aside0.mk (Kd.R_over' (v := (.slice (some ⟨go18, 0, none⟩) y285.length co18)) (by (with_reducible repeat (first | apply Kd.R_alloc | apply Kd.R_drewN | apply Kd.R_drew)); exact HO_8.out) (Kd.R_typed HO_7.out) (by decide) hg); have n2_ := Aside0.mk ((by rw [hw]; exact below_set (HB.out) GB18.out : Below w.heap.size w w59)); clear HO_7; clear HO_8; clear HB; have HO_7 := n0_; have HO_8 := n1_; have HB := n2_; clear n0_ n1_ n2_; clear hg hw hp_))
                        (try simp only [← hl7_3, ← hl7_30])
                        go_roundg kj30
                        case measure => have := HK1.out; have := HJ13.out; have := HK3.out; have := HJ20.out; have := HJ30.out; omega
                        case rel => exact ⟨(y289), (ji54), (by first | rfl | (simp; done) | (simp only [hji3, hji6]; done) | (simp only [← hji54] <;> (first | rfl | simp)) | (simp [*]; done)), H', ⟨by have := HK1.out; have := HJ13.out; have := HK3.out; have := HJ20.out; have := HJ30.out; omega⟩, ⟨by (try simp only [hl7_3]); (try simp only [hl7_30]); (with_reducible repeat (first | apply Kd.R_alloc | apply Kd.R_drewN | apply Kd.R_drew)); exact HO_7.out⟩, ⟨by (try simp only [hl7_3]); (try simp only [hl7_30]); (with_reducible repeat (first | apply Kd.R_alloc | apply Kd.R_drewN | apply Kd.R_drew)); exact HO_8.out⟩, ⟨by repeat (first | (with_reducible first | exact HB.out | apply below_alloc | apply pw_below_drewN | apply below_drew1) | exact HB.out)⟩⟩
                       ·rw [if_neg c56] at H
                        exact absurd H (by simp)
                      ·rw [if_neg c55] at H
                       exact absurd H (by simp)
                 ·rw [if_neg c29] at H
                  exact absurd H (by simp)
                ·rw [if_neg c28] at H
                 exact absurd H (by simp)
           ·rw [if_neg c17] at H
            exact absurd H (by simp)
          ·rw [if_neg c16] at H
           exact absurd H (by simp)
       ·rw [if_neg c13] at H
        have c13b0 : decide (x9_1 < (wrap64 (2 * (wrap64 ((l0.length : Int) / 2))))) = false := decide_eq_false c13
        (try simp only [hji3] at c13b0)
        (try simp only [hji6] at c13b0)
        (try simp only [hji25] at c13b0)
        (try simp only [hji48] at c13b0)
        (try simp only [hji54] at c13b0)
        clear c13
        have H' := Aside0.mk H
        clear H
        go_wp2
        go_loopg [11, 12] k1 (fun kq v11 v12 w' => ∃ (x7_2 : List Bool) (x11_2 : Int) (x12_2 : Int), v11 = .int .i64 x11_2 ∧ v12 = .int .i64 x12_2 ∧ Aside0 (pomaderef07_product.l2 kq l0 l1 (wrap64 ((l0.length : Int) / 2)) x7_2 x8_1 x11_2 x12_2 = some (r1, r2)) ∧ Aside0 (kq ≤ k1) ∧ Aside0 (Kd.R Kd.bool 4 w' w.heap.size (fun _ => True) v277 x7_2) ∧ Aside0 (Kd.R (Kd.int .i64) 3 w' w.heap.size (fun _ => True) v280 x8_1) ∧ Aside0 (Below w.heap.size w w'))
        case atStart => exact ⟨(x7_1), (0), ((wrap64 ((l0.length : Int) / 2))), (by first | rfl | (simp; done) | (simp [*]; done)), (by first | rfl | (simp; done) | (simp [*]; done)), H', ⟨Nat.le_refl _⟩, ⟨by (with_reducible repeat (first | apply Kd.R_alloc | apply Kd.R_drewN | apply Kd.R_drew)); exact HO_7.out⟩, ⟨by (with_reducible repeat (first | apply Kd.R_alloc | apply Kd.R_drewN | apply Kd.R_drew)); exact HO_8.out⟩, ⟨by repeat (first | (with_reducible first | exact HB.out | apply below_alloc | apply pw_below_drewN | apply below_drew1) | exact HB.out)⟩⟩
        case round =>
         clear H'
         try clear c1
         try clear p1
         try clear q1
         try clear hx1
         try clear c2
         try clear p2
         try clear q2
         try clear hx2
         try clear c3
         try clear p3
         try clear q3
         try clear hx3
         try clear hf3
         try clear c4
         try clear c4b0
         try clear c4b1
         try clear p4
         try clear q4
         try clear hx4
         try clear hf4
         try clear c5
         try clear c5b0
         try clear c5b1
         try clear p5
         try clear q5
         try clear hx5
         try clear hf5
         try clear p6
         try clear c7
         try clear c7b0
         try clear c7b1
         try clear c8
         try clear c8b0
         try clear c8b1
         try clear c13
         try clear c13b0
         try clear c15
         try clear c15b0
         try clear c16
         try clear c16b0
         try clear c17
         try clear c17b0
         try clear p18
         try clear q18
         try clear hx18
         try clear hf18
         try clear c22
         try clear c22b0
         try clear c23
         try clear c23b0
         try clear c24
         try clear c24b0
         try clear c26
         try clear c26b0
         try clear c27
         try clear c27b0
         try clear c28
         try clear c28b0
         try clear p28
         try clear q28
         try clear hx28
         try clear c29
         try clear c29b0
         try clear p30
         try clear q30
         try clear hx30
         try clear hf30
         try clear c34
         try clear c34b0
         try clear c35
         try clear c36
         try clear c36b0
         try clear c37
         try clear c37b0
         try clear c38
         try clear c38b0
         try clear p39
         try clear q39
         try clear hx39
         try clear hf39
         try clear c42
         try clear c42b0
         try clear c43
         try clear c43b0
         try clear p44
         try clear q44
         try clear hx44
         try clear hf44
         try clear c47
         try clear c47b0
         try clear c49
         try clear c49b0
         try clear c50
         try clear c50b0
         try clear p51
         try clear q51
         try clear hx51
         try clear hf51
         try clear c55
         try clear c55b0
         try clear c56
         try clear c56b0
         try clear p57
         try clear q57
         try clear hx57
         try clear hf57
         try clear hx18_0
         try clear hx283_0
         try clear hx284_0
         try clear hx30_0
         try clear hx39_0
         try clear hx44_0
         try clear hx51_0
         try clear hx57_0
         try clear p1
         try clear p18
         try clear p2
         try clear p28
         try clear p283
         try clear p284
         try clear p3
         try clear p30
         try clear p39
         try clear p44
         try clear p51
         try clear p57
         try clear p6
         try clear q1
         try clear q18
         try clear q2
         try clear q28
         try clear q283
         try clear q284
         try clear q3
         try clear q30
         try clear q39
         try clear q44
         try clear q51
         try clear q57
         obtain ⟨x7_2, x11_2, x12_2, rfl, rfl, HA, HK2, HO_7, HO_8, HB⟩ := hrel
         cases gk with
         | zero => exact absurd HA.out (by simp [pomaderef07_product.l2])
         | succ k2 =>
          have H := HA.out
          clear HA
          simp only [pomaderef07_product.l2] at H
          by_cases c60 : x12_2 < (wrap64 (2 * (wrap64 ((l0.length : Int) / 2))))
          ·rw [if_pos c60] at H
           have c60b0 : decide (x12_2 < (wrap64 (2 * (wrap64 ((l0.length : Int) / 2))))) = true := decide_eq_true c60
           (try simp only [hji3] at c60b0)
           (try simp only [hji6] at c60b0)
           (try simp only [hji25] at c60b0)
           (try simp only [hji48] at c60b0)
           (try simp only [hji54] at c60b0)
           clear c60
           by_cases c61 : 0 ≤ x12_2
           ·rw [if_pos c61] at H
            have c61b0 : decide (0 ≤ x12_2) = true := decide_eq_true c61
            clear c61
            by_cases c62 : x12_2 < (x7_2.length : Int)
            ·rw [if_pos c62] at H
             have c62b0 : decide (x12_2 < (x7_2.length : Int)) = true := decide_eq_true c62
             clear c62
             obtain ⟨bq63, hbq63⟩ : ∃ b_ : Bool, b_ = (rdOf false x7_2 x12_2) := ⟨_, rfl⟩
             replace H : (if bq63 = true then (pomaderef07_product.l2 k2 l0 l1 (wrap64 ((l0.length : Int) / 2)) x7_2 x8_1 x11_2 (wrap64 (x12_2 + 1))) else (pomaderef07_product.l3 k2 l0 l1 (wrap64 ((l0.length : Int) / 2)) x7_2 x8_1 (wrap64 (x11_2 + 1)) x12_2 x12_2)) = some (r1, r2) := by rw [← hbq63] at H; exact H
             have Nbq63 := Aside0.mk hbq63
             clear hbq63
             by_cases c64 : bq63 = true
             ·subst c64
              have H1 : (pomaderef07_product.l2 k2 l0 l1 (wrap64 ((l0.length : Int) / 2)) x7_2 x8_1 x11_2 (wrap64 (x12_2 + 1))) = some (r1, r2) := by rw [if_pos rfl] at H; exact H
              clear H
              have H := H1
              clear H1
              have H' := Aside0.mk H
              clear H
              obtain ⟨Ao65, co65, eo65⟩ := Kd.R_slice HO_7.out
              subst eo65
              have p290 : 0 ≤ (x12_2 : Int) := of_decide_eq_true (by first | (with_reducible assumption) | assumption)
              have q290 : x12_2 < (x7_2.length : Int) := of_decide_eq_true (by first | (with_reducible assumption) | assumption)
              obtain ⟨ad290, e290, hx290_0⟩ := Kd.at_bool (Kd.R_reads' HO_7.out).2.2 x12_2 p290 q290
              (try rw [← Nbq63.out] at hx290_0)
              cases e290
              replace p290 := eq_true p290
              replace q290 := eq_true q290
              go_wp2
              go_roundg k2
              case measure => have := HK1.out; have := HK2.out; omega
              case rel => exact ⟨(x7_2), (x11_2), (wrap64 (x12_2 + 1)), (by first | rfl | (simp; done) | (simp [*]; done)), (by first | rfl | (simp; done) | (simp [*]; done)), H', ⟨by have := HK1.out; have := HK2.out; omega⟩, ⟨by (with_reducible repeat (first | apply Kd.R_alloc | apply Kd.R_drewN | apply Kd.R_drew)); exact HO_7.out⟩, ⟨by (with_reducible repeat (first | apply Kd.R_alloc | apply Kd.R_drewN | apply Kd.R_drew)); exact HO_8.out⟩, ⟨by repeat (first | (with_reducible first | exact HB.out | apply below_alloc | apply pw_below_drewN | apply below_drew1) | exact HB.out)⟩⟩
             ·replace c64 := Bool.eq_false_iff.mpr c64
              subst c64
              have H1 : (pomaderef07_product.l3 k2 l0 l1 (wrap64 ((l0.length : Int) / 2)) x7_2 x8_1 (wrap64 (x11_2 + 1)) x12_2 x12_2) = some (r1, r2) := by rw [if_neg (show ¬ (false = true) by decide)] at H; exact H
              clear H
              have H := H1
              clear H1
              have H' := Aside0.mk H
              clear H
              obtain ⟨Ao66, co66, eo66⟩ := Kd.R_slice HO_7.out
              subst eo66
              have p290 : 0 ≤ (x12_2 : Int) := of_decide_eq_true (by first | (with_reducible assumption) | assumption)
              have q290 : x12_2 < (x7_2.length : Int) := of_decide_eq_true (by first | (with_reducible assumption) | assumption)
              obtain ⟨ad290, e290, hx290_0⟩ := Kd.at_bool (Kd.R_reads' HO_7.out).2.2 x12_2 p290 q290
              (try rw [← Nbq63.out] at hx290_0)
              cases e290
              replace p290 := eq_true p290
              replace q290 := eq_true q290
              go_wp2
              go_loopg [13] k2 (fun kq v13 w' => ∃ (x7_3 : List Bool) (x13_3 : Int), v13 = .int .i64 x13_3 ∧ Aside0 (pomaderef07_product.l3 kq l0 l1 (wrap64 ((l0.length : Int) / 2)) x7_3 x8_1 (wrap64 (x11_2 + 1)) x12_2 x13_3 = some (r1, r2)) ∧ Aside0 (kq ≤ k2) ∧ Aside0 (Kd.R Kd.bool 4 w' w.heap.size (fun _ => True) (.slice (some ad290) x7_2.length co66) x7_3) ∧ Aside0 (Kd.R (Kd.int .i64) 3 w' w.heap.size (fun _ => True) v280 x8_1) ∧ Aside0 (Below w.heap.size w w'))
              case atStart => exact ⟨(x7_2), (x12_2), (by first | rfl | (simp; done) | (simp [*]; done)), H', ⟨Nat.le_refl _⟩, ⟨by (with_reducible repeat (first | apply Kd.R_alloc | apply Kd.R_drewN | apply Kd.R_drew)); exact HO_7.out⟩, ⟨by (with_reducible repeat (first | apply Kd.R_alloc | apply Kd.R_drewN | apply Kd.R_drew)); exact HO_8.out⟩, ⟨by repeat (first | (with_reducible first | exact HB.out | apply below_alloc | apply pw_below_drewN | apply below_drew1) | exact HB.out)⟩⟩
              case round =>
               clear H'
               try clear c1
               try clear p1
               try clear q1
               try clear hx1
               try clear c2
               try clear p2
               try clear q2
               try clear hx2
               try clear c3
               try clear p3
               try clear q3
               try clear hx3
               try clear hf3
               try clear c4
               try clear c4b0
               try clear c4b1
               try clear p4
               try clear q4
               try clear hx4
               try clear hf4
               try clear c5
               try clear c5b0
               try clear c5b1
               try clear p5
               try clear q5
               try clear hx5
               try clear hf5
               try clear c6
               try clear p6
               try clear q6
               try clear c7
               try clear c7b0
               try clear c7b1
               try clear c8
               try clear c8b0
               try clear c8b1
               try clear c13
               try clear c13b0
               try clear c15
               try clear c15b0
               try clear c16
               try clear c16b0
               try clear c17
               try clear c17b0
               try clear p18
               try clear q18
               try clear hx18
               try clear hf18
               try clear c22
               try clear c22b0
               try clear c23
               try clear c23b0
               try clear c24
               try clear c24b0
               try clear c26
               try clear c26b0
               try clear c27
               try clear c27b0
               try clear c28
               try clear c28b0
               try clear p28
               try clear q28
               try clear hx28
               try clear c29
               try clear c29b0
               try clear p29
               try clear q29
               try clear hx29
               try clear p30
               try clear q30
               try clear hx30
               try clear hf30
               try clear c34
               try clear c34b0
               try clear c35
               try clear c36
               try clear c36b0
               try clear c37
               try clear c37b0
               try clear c38
               try clear c38b0
               try clear p39
               try clear q39
               try clear hx39
               try clear hf39
               try clear c42
               try clear c42b0
               try clear c43
               try clear c43b0
               try clear p44
               try clear q44
               try clear hx44
               try clear hf44
               try clear c47
               try clear c47b0
               try clear c49
               try clear c49b0
               try clear c50
               try clear c50b0
               try clear p51
               try clear q51
               try clear hx51
               try clear hf51
               try clear c55
               try clear c55b0
               try clear c56
               try clear c56b0
               try clear p57
               try clear q57
               try clear hx57
               try clear hf57
               try clear c60
               try clear c60b0
               try clear c61
               try clear c61b0
               try clear c62
               try clear c62b0
               try clear q63
               try clear c64
               try clear p64
               try clear hx18_0
               try clear hx283_0
               try clear hx284_0
               try clear hx290_0
               try clear hx30_0
               try clear hx39_0
               try clear hx44_0
               try clear hx51_0
               try clear hx57_0
               try clear p1
               try clear p18
               try clear p2
               try clear p28
               try clear p283
               try clear p284
               try clear p290
               try clear p3
               try clear p30
               try clear p39
               try clear p4
               try clear p44
               try clear p5
               try clear p51
               try clear p57
               try clear p6
               try clear q1
               try clear q18
               try clear q2
               try clear q28
               try clear q283
               try clear q284
               try clear q290
               try clear q3
               try clear q30
               try clear q39
               try clear q4
               try clear q44
               try clear q5
               try clear q51
               try clear q57
               obtain ⟨x7_3, x13_3, rfl, HA, HK3, HO_7, HO_8, HB⟩ := hrel
               have hl7_3 := (Kd.R_reads' HO_7.out).1
               rw [hl7_3] at HO_7
               (try simp only [hl7_3])
               (try simp only [hl7_3] at HO_8)
               cases gk with
               | zero => exact absurd HA.out (by simp [pomaderef07_product.l3])
               | succ k3 =>
                have H := HA.out
                clear HA
                simp only [pomaderef07_product.l3] at H
                by_cases c67 : 0 ≤ x13_3
                ·rw [if_pos c67] at H
                 have c67b0 : decide (0 ≤ x13_3) = true := decide_eq_true c67
                 clear c67
                 by_cases c68 : x13_3 < (x7_3.length : Int)
                 ·rw [if_pos c68] at H
                  have c68b0 : decide (x13_3 < (x7_3.length : Int)) = true := decide_eq_true c68
                  clear c68
                  obtain ⟨bq69, hbq69⟩ : ∃ b_ : Bool, b_ = (rdOf false x7_3 x13_3) := ⟨_, rfl⟩
                  replace H : (if bq69 = true then (pomaderef07_product.l2 k3 l0 l1 (wrap64 ((l0.length : Int) / 2)) x7_3 x8_1 (wrap64 (x11_2 + 1)) (wrap64 (x12_2 + 1))) else (if x13_3 < (l0.length : Int) then (if 0 ≤ (rd l0 x13_3) then (if (rd l0 x13_3) < (x7_3.length : Int) then (if 0 ≤ (wrap64 ((rd l0 x13_3) - (wrap64 ((l0.length : Int) / 2)))) then (if (wrap64 ((rd l0 x13_3) - (wrap64 ((l0.length : Int) / 2)))) < (l1.length : Int) then (if 0 ≤ (wrap64 ((wrap64 (2 * (wrap64 ((l0.length : Int) / 2)))) + (rd l1 (wrap64 ((rd l0 x13_3) - (wrap64 ((l0.length : Int) / 2))))))) then (if (wrap64 ((wrap64 (2 * (wrap64 ((l0.length : Int) / 2)))) + (rd l1 (wrap64 ((rd l0 x13_3) - (wrap64 ((l0.length : Int) / 2))))))) < (x7_3.length : Int) then (pomaderef07_product.l3 k3 l0 l1 (wrap64 ((l0.length : Int) / 2)) (((x7_3.set (x13_3 : Int).toNat true).set ((rd l0 x13_3) : Int).toNat true).set ((wrap64 ((wrap64 (2 * (wrap64 ((l0.length : Int) / 2)))) + (rd l1 (wrap64 ((rd l0 x13_3) - (wrap64 ((l0.length : Int) / 2))))))) : Int).toNat true) x8_1 (wrap64 (x11_2 + 1)) x12_2 (wrap64 ((wrap64 ((wrap64 (2 * (wrap64 ((l0.length : Int) / 2)))) + (rd l1 (wrap64 ((rd l0 x13_3) - (wrap64 ((l0.length : Int) / 2))))))) - (wrap64 ((l0.length : Int) / 2))))) else (none)) else (none)) else (none)) else (none)) else (none)) else (none)) else (none))) = some (r1, r2) := by rw [← hbq69] at H; exact H
                  have Nbq69 := Aside0.mk hbq69
                  clear hbq69
                  by_cases c70 : bq69 = true
                  ·subst c70
                   have H1 : (pomaderef07_product.l2 k3 l0 l1 (wrap64 ((l0.length : Int) / 2)) x7_3 x8_1 (wrap64 (x11_2 + 1)) (wrap64 (x12_2 + 1))) = some (r1, r2) := by rw [if_pos rfl] at H; exact H
                   clear H
                   have H := H1
                   clear H1
                   have H' := Aside0.mk H
                   clear H
                   have p291 : 0 ≤ (x13_3 : Int) := of_decide_eq_true (by first | (with_reducible assumption) | assumption)
                   have q291 : x13_3 < (x7_3.length : Int) := of_decide_eq_true (by first | (with_reducible assumption) | assumption)
                   obtain ⟨ad291, e291, hx291_0⟩ := Kd.at_bool (Kd.R_reads' HO_7.out).2.2 x13_3 p291 q291
                   (try rw [← Nbq63.out] at hx291_0)
                   (try rw [← Nbq69.out] at hx291_0)
                   obtain rfl : ad290 = ad291 := (by injection e291)
                   replace p291 := eq_true p291
                   replace q291 := eq_true q291
                   go_wp2
                   (try simp only [← hl7_3])
                   go_roundg k3
                   case measure => have := HK1.out; have := HK2.out; have := HK3.out; omega
                   case rel => exact ⟨(x7_3), ((wrap64 (x11_2 + 1))), (wrap64 (x12_2 + 1)), (by first | rfl | (simp; done) | (simp [*]; done)), (by first | rfl | (simp; done) | (simp [*]; done)), H', ⟨by have := HK1.out; have := HK2.out; have := HK3.out; omega⟩, ⟨by (try simp only [hl7_3]); (with_reducible repeat (first | apply Kd.R_alloc | apply Kd.R_drewN | apply Kd.R_drew)); exact HO_7.out⟩, ⟨by (try simp only [hl7_3]); (with_reducible repeat (first | apply Kd.R_alloc | apply Kd.R_drewN | apply Kd.R_drew)); exact HO_8.out⟩, ⟨by repeat (first | (with_reducible first | exact HB.out | apply below_alloc | apply pw_below_drewN | apply below_drew1) | exact HB.out)⟩⟩
                  ·replace c70 := Bool.eq_false_iff.mpr c70
                   subst c70
                   have H1 : (if x13_3 < (l0.length : Int) then (if 0 ≤ (rd l0 x13_3) then (if (rd l0 x13_3) < (x7_3.length : Int) then (if 0 ≤ (wrap64 ((rd l0 x13_3) - (wrap64 ((l0.length : Int) / 2)))) then (if (wrap64 ((rd l0 x13_3) - (wrap64 ((l0.length : Int) / 2)))) < (l1.length : Int) then (if 0 ≤ (wrap64 ((wrap64 (2 * (wrap64 ((l0.length : Int) / 2)))) + (rd l1 (wrap64 ((rd l0 x13_3) - (wrap64 ((l0.length : Int) / 2))))))) then (if (wrap64 ((wrap64 (2 * (wrap64 ((l0.length : Int) / 2)))) + (rd l1 (wrap64 ((rd l0 x13_3) - (wrap64 ((l0.length : Int) / 2))))))) < (x7_3.length : Int) then (pomaderef07_product.l3 k3 l0 l1 (wrap64 ((l0.length : Int) / 2)) (((x7_3.set (x13_3 : Int).toNat true).set ((rd l0 x13_3) : Int).toNat true).set ((wrap64 ((wrap64 (2 * (wrap64 ((l0.length : Int) / 2)))) + (rd l1 (wrap64 ((rd l0 x13_3) - (wrap64 ((l0.length : Int) / 2))))))) : Int).toNat true) x8_1 (wrap64 (x11_2 + 1)) x12_2 (wrap64 ((wrap64 ((wrap64 (2 * (wrap64 ((l0.length : Int) / 2)))) + (rd l1 (wrap64 ((rd l0 x13_3) - (wrap64 ((l0.length : Int) / 2))))))) - (wrap64 ((l0.length : Int) / 2))))) else (none)) else (none)) else (none)) else (none)) else (none)) else (none)) else (none)) = some (r1, r2) := by rw [if_neg (show ¬ (false = true) by decide)] at H; exact H
                   clear H
                   have H := H1
                   clear H1
                   obtain ⟨y292, hy292⟩ : ∃ y_ : List Bool, y_ = (x7_3.set (x13_3 : Int).toNat true) := ⟨_, rfl⟩
                   replace H : (if x13_3 < (l0.length : Int) then (if 0 ≤ (rd l0 x13_3) then (if (rd l0 x13_3) < (x7_3.length : Int) then (if 0 ≤ (wrap64 ((rd l0 x13_3) - (wrap64 ((l0.length : Int) / 2)))) then (if (wrap64 ((rd l0 x13_3) - (wrap64 ((l0.length : Int) / 2)))) < (l1.length : Int) then (if 0 ≤ (wrap64 ((wrap64 (2 * (wrap64 ((l0.length : Int) / 2)))) + (rd l1 (wrap64 ((rd l0 x13_3) - (wrap64 ((l0.length : Int) / 2))))))) then (if (wrap64 ((wrap64 (2 * (wrap64 ((l0.length : Int) / 2)))) + (rd l1 (wrap64 ((rd l0 x13_3) - (wrap64 ((l0.length : Int) / 2))))))) < (x7_3.length : Int) then (pomaderef07_product.l3 k3 l0 l1 (wrap64 ((l0.length : Int) / 2)) ((y292.set ((rd l0 x13_3) : Int).toNat true).set ((wrap64 ((wrap64 (2 * (wrap64 ((l0.length : Int) / 2)))) + (rd l1 (wrap64 ((rd l0 x13_3) - (wrap64 ((l0.length : Int) / 2))))))) : Int).toNat true) x8_1 (wrap64 (x11_2 + 1)) x12_2 (wrap64 ((wrap64 ((wrap64 (2 * (wrap64 ((l0.length : Int) / 2)))) + (rd l1 (wrap64 ((rd l0 x13_3) - (wrap64 ((l0.length : Int) / 2))))))) - (wrap64 ((l0.length : Int) / 2))))) else (none)) else (none)) else (none)) else (none)) else (none)) else (none)) else (none)) = some (r1, r2) := by first | (rw [hy292]; with_reducible exact H) | (have H2_ := (Option.bind_some _ _).symm.trans H; rw [hy292]; with_reducible exact H2_) | (have H2_ := (Option.bind_some _ _).symm.trans H; with_reducible exact H2_) | with_reducible exact H | (rw [hy292]; exact H) | exact H
                   have Ny292 := Aside0.mk hy292
                   clear hy292
                   by_cases c72 : x13_3 < (l0.length : Int)
                   ·rw [if_pos c72] at H
                    have c72b0 : decide (x13_3 < (l0.length : Int)) = true := decide_eq_true c72
                    clear c72
                    by_cases c73 : 0 ≤ (rd l0 x13_3)
                    ·rw [if_pos c73] at H
                     have c73b0 : decide (0 ≤ (rd l0 x13_3)) = true := decide_eq_true c73
                     clear c73
                     by_cases c74 : (rd l0 x13_3) < (x7_3.length : Int)
                     ·rw [if_pos c74] at H
                      have c74b0 : decide ((rd l0 x13_3) < (x7_3.length : Int)) = true := decide_eq_true c74
                      clear c74
                      obtain ⟨y294, hy294⟩ : ∃ y_ : List Bool, y_ = (y292.set ((rd l0 x13_3) : Int).toNat true) := ⟨_, rfl⟩
                      replace H : (if 0 ≤ (wrap64 ((rd l0 x13_3) - (wrap64 ((l0.length : Int) / 2)))) then (if (wrap64 ((rd l0 x13_3) - (wrap64 ((l0.length : Int) / 2)))) < (l1.length : Int) then (if 0 ≤ (wrap64 ((wrap64 (2 * (wrap64 ((l0.length : Int) / 2)))) + (rd l1 (wrap64 ((rd l0 x13_3) - (wrap64 ((l0.length : Int) / 2))))))) then (if (wrap64 ((wrap64 (2 * (wrap64 ((l0.length : Int) / 2)))) + (rd l1 (wrap64 ((rd l0 x13_3) - (wrap64 ((l0.length : Int) / 2))))))) < (x7_3.length : Int) then (pomaderef07_product.l3 k3 l0 l1 (wrap64 ((l0.length : Int) / 2)) (y294.set ((wrap64 ((wrap64 (2 * (wrap64 ((l0.length : Int) / 2)))) + (rd l1 (wrap64 ((rd l0 x13_3) - (wrap64 ((l0.length : Int) / 2))))))) : Int).toNat true) x8_1 (wrap64 (x11_2 + 1)) x12_2 (wrap64 ((wrap64 ((wrap64 (2 * (wrap64 ((l0.length : Int) / 2)))) + (rd l1 (wrap64 ((rd l0 x13_3) - (wrap64 ((l0.length : Int) / 2))))))) - (wrap64 ((l0.length : Int) / 2))))) else (none)) else (none)) else (none)) else (none)) = some (r1, r2) := by first | (rw [hy294]; with_reducible exact H) | (have H2_ := (Option.bind_some _ _).symm.trans H; rw [hy294]; with_reducible exact H2_) | (have H2_ := (Option.bind_some _ _).symm.trans H; with_reducible exact H2_) | with_reducible exact H | (rw [hy294]; exact H) | exact H
                      have Ny294 := Aside0.mk hy294
                      clear hy294
                      obtain ⟨ji76, hji76⟩ : ∃ j_ : Int, (wrap64 ((rd l0 x13_3) - (wrap64 ((l0.length : Int) / 2)))) = j_ := ⟨_, rfl⟩
                      replace H : (if 0 ≤ (ji76) then (if (ji76) < (l1.length : Int) then (if 0 ≤ (wrap64 ((wrap64 (2 * (wrap64 ((l0.length : Int) / 2)))) + (rd l1 (ji76)))) then (if (wrap64 ((wrap64 (2 * (wrap64 ((l0.length : Int) / 2)))) + (rd l1 (ji76)))) < (x7_3.length : Int) then (pomaderef07_product.l3 k3 l0 l1 (wrap64 ((l0.length : Int) / 2)) (y294.set ((wrap64 ((wrap64 (2 * (wrap64 ((l0.length : Int) / 2)))) + (rd l1 (ji76)))) : Int).toNat true) x8_1 (wrap64 (x11_2 + 1)) x12_2 (wrap64 ((wrap64 ((wrap64 (2 * (wrap64 ((l0.length : Int) / 2)))) + (rd l1 (ji76)))) - (wrap64 ((l0.length : Int) / 2))))) else (none)) else (none)) else (none)) else (none)) = some (r1, r2) := by first | (rw [hji76] at H; exact H) | (simp only [hji76] at H ⊢; exact H)
                      have hji76w : (IntKind.i64.wrap ((rd l0 x13_3) - (wrap64 ((l0.length : Int) / 2)))) = ji76 := (i64_w _).trans hji76
                      (try simp only [hji3] at hji76)
                      (try simp only [hji3] at hji76w)
                      (try simp only [hji6] at hji76)
                      (try simp only [hji6] at hji76w)
                      (try simp only [hji25] at hji76)
                      (try simp only [hji25] at hji76w)
                      (try simp only [hji48] at hji76)
                      (try simp only [hji48] at hji76w)
                      (try simp only [hji54] at hji76)
                      (try simp only [hji54] at hji76w)
                      by_cases c77 : 0 ≤ (ji76)
                      ·rw [if_pos c77] at H
                       have c77b0 : decide (0 ≤ (ji76)) = true := decide_eq_true c77
                       clear c77
                       by_cases c78 : (ji76) < (l1.length : Int)
                       ·rw [if_pos c78] at H
                        have c78b0 : decide ((ji76) < (l1.length : Int)) = true := decide_eq_true c78
                        clear c78
                        obtain ⟨ji79, hji79⟩ : ∃ j_ : Int, (wrap64 ((wrap64 (2 * (wrap64 ((l0.length : Int) / 2)))) + (rd l1 (ji76)))) = j_ := ⟨_, rfl⟩
                        replace H : (if 0 ≤ (ji79) then (if (ji79) < (x7_3.length : Int) then (pomaderef07_product.l3 k3 l0 l1 (wrap64 ((l0.length : Int) / 2)) (y294.set ((ji79) : Int).toNat true) x8_1 (wrap64 (x11_2 + 1)) x12_2 (wrap64 ((ji79) - (wrap64 ((l0.length : Int) / 2))))) else (none)) else (none)) = some (r1, r2) := by first | (rw [hji79] at H; exact H) | (simp only [hji79] at H ⊢; exact H)
                        have hji79w : (IntKind.i64.wrap ((wrap64 (2 * (wrap64 ((l0.length : Int) / 2)))) + (rd l1 (ji76)))) = ji79 := (i64_w _).trans hji79
                        (try simp only [hji3] at hji79)
                        (try simp only [hji3] at hji79w)
                        (try simp only [hji6] at hji79)
                        (try simp only [hji6] at hji79w)
                        (try simp only [hji25] at hji79)
                        (try simp only [hji25] at hji79w)
                        (try simp only [hji48] at hji79)
                        (try simp only [hji48] at hji79w)
                        (try simp only [hji54] at hji79)
                        (try simp only [hji54] at hji79w)
                        (try simp only [hji76] at hji79)
                        (try simp only [hji76] at hji79w)
                        by_cases c80 : 0 ≤ (ji79)
                        ·rw [if_pos c80] at H
                         have c80b0 : decide (0 ≤ (ji79)) = true := decide_eq_true c80
                         clear c80
                         by_cases c81 : (ji79) < (x7_3.length : Int)
                         ·rw [if_pos c81] at H
                          have c81b0 : decide ((ji79) < (x7_3.length : Int)) = true := decide_eq_true c81
                          clear c81
                          obtain ⟨y296, hy296⟩ : ∃ y_ : List Bool, y_ = (y294.set ((ji79) : Int).toNat true) := ⟨_, rfl⟩
                          replace H : (pomaderef07_product.l3 k3 l0 l1 (wrap64 ((l0.length : Int) / 2)) y296 x8_1 (wrap64 (x11_2 + 1)) x12_2 (wrap64 ((ji79) - (wrap64 ((l0.length : Int) / 2))))) = some (r1, r2) := by first | (rw [hy296]; with_reducible exact H) | (have H2_ := (Option.bind_some _ _).symm.trans H; rw [hy296]; with_reducible exact H2_) | (have H2_ := (Option.bind_some _ _).symm.trans H; with_reducible exact H2_) | with_reducible exact H | (rw [hy296]; exact H) | exact H
                          have Ny296 := Aside0.mk hy296
                          clear hy296
                          have H' := Aside0.mk H
                          clear H
                          have p291 : 0 ≤ (x13_3 : Int) := of_decide_eq_true (by first | (with_reducible assumption) | assumption)
                          have q291 : x13_3 < (x7_3.length : Int) := of_decide_eq_true (by first | (with_reducible assumption) | assumption)
                          obtain ⟨ad291, e291, hx291_0⟩ := Kd.at_bool (Kd.R_reads' HO_7.out).2.2 x13_3 p291 q291
                          (try rw [← Nbq63.out] at hx291_0)
                          (try rw [← Nbq69.out] at hx291_0)
                          obtain rfl : ad290 = ad291 := (by injection e291)
                          replace p291 := eq_true p291
                          replace q291 := eq_true q291
                          have p71 : 0 ≤ (x13_3 : Int) := of_decide_eq_true (by first | (with_reducible assumption) | assumption)
                          have q71 : (x13_3 : Int) < ((x7_3.length : Int) : Int) := of_decide_eq_true (by first | (with_reducible assumption) | assumption)
                          obtain ⟨go71, co71, eo71, gb71, gl71, cl71, HG71⟩ := Kd.R_form HO_7.out (by omega)
                          (first | cases eo71 | (injection eo71 with ea_ en_ ec_; (first | subst ea_ | (injection ea_ with ea_; subst ea_)); subst ec_; clear en_))
                          (try simp only [add_plain] at *)
                          have GB71 := Aside0.mk gb71
                          have GG71 := Aside0.mk HG71
                          clear gb71 gl71 HG71
                          (first | simp only [add_plain] at hx290_0 | skip)
                          (first | simp only [add_plain] at hx291_0 | skip)
                          obtain ⟨hx71_0, hf71_0⟩ := Kd.R_celln false HO_7.out (x13_3 : Int) p71 q71
                          replace p71 := eq_true p71
                          replace q71 := eq_true q71
                          have HP83 := Kd.R_putg HO_7.out (x13_3 : Int) true
                          go_wp2_with (first | ((with_reducible refine gate_store (t := 4) (p := 116) rfl ?_); refine store_event (t := 4) (p := 116) (v := ?vo_w84) (w1 := (wr.setCell ⟨go71, (x13_3 : Int).toNat, none⟩ (.bool true))) ?hg ?ho ?hn ?hr ?_; (case ho => rfl); (case hg => rfl); (case hn => rfl); (case hr => first | (go_simp; done) | (go_simp; rfl)); intro w84 hw; have hg : wr.grownBy w84 (some go71) := (by rw [hw]; exact HP83.2); have hp_ : Kd.R Kd.bool 4 w84 w.heap.size (fun _ => True) (.slice (some ⟨go71, 0, none⟩) x7_3.length co66) y292 := (by rw [hw, Ny292.out]; exact HP83.1); clear HP83; have n0_ := Aside0.mk (hp_); have n1_ := Aside0.mk (Kd.R_over' (v := (.slice (some ⟨go71, 0, none⟩) x7_3.length co66)) (by (with_reducible repeat (first | apply Kd.R_alloc | apply Kd.R_drewN | apply Kd.R_drew)); exact HO_8.out) (Kd.R_typed HO_7.out) (by decide) hg); have n2_ := Aside0.mk ((by rw [hw]; exact below_set (HB.out) GB71.out : Below w.heap.size w w84)); clear HO_7; clear HO_8; clear HB; have HO_7 := n0_; have HO_8 := n1_; have HB := n2_; clear n0_ n1_ n2_; clear hg hw hp_; have p293 : 0 ≤ (x13_3 : Int) := of_decide_eq_true (by first | (with_reducible assumption) | assumption); have q293 : x13_3 < (l0.length : Int) := of_decide_eq_true (by first | (with_reducible assumption) | assumption); obtain ⟨ad293, e293, hx293_0⟩ := Kd.at_int HR0.out x13_3 p293 q293; cases e293; replace hx293_0 := (HB.out.cell (World.block_lt_of_cell? w _ hx293_0)).trans hx293_0; replace p293 := eq_true p293; replace q293 := eq_true q293; have p75 : 0 ≤ ((rd l0 x13_3) : Int) := of_decide_eq_true (by first | (with_reducible assumption) | assumption); have q75 : ((rd l0 x13_3) : Int) < ((x7_3.length : Int) : Int) := of_decide_eq_true (by first | (with_reducible assumption) | assumption); obtain ⟨hx75_0, hf75_0⟩ := Kd.R_celln false HO_7.out ((rd l0 x13_3) : Int) p75 q75; replace p75 := eq_true p75; replace q75 := eq_true q75; obtain ⟨hy85_, hz85_⟩ := Kd.R_celln false HO_7.out ((rd l0 x13_3) : Int) (of_decide_eq_true (by first | (with_reducible assumption) | assumption)) (of_decide_eq_true (by first | (with_reducible assumption) | assumption)); have HP85 := Kd.R_putg HO_7.out ((rd l0 x13_3) : Int) true) | ((with_reducible refine gate_store (t := 4) (p := 123) rfl ?_); refine store_event (t := 4) (p := 123) (v := ?vo_w86) (w1 := (w84.setCell ⟨go71, ((rd l0 x13_3) : Int).toNat, none⟩ (.bool true))) ?hg ?ho ?hn ?hr ?_; (case ho => rfl); (case hg => rfl); (case hn => rfl); (case hr => first | (go_simp; done) | (go_simp; rfl)); intro w86 hw; have hg : w84.grownBy w86 (some go71) := (by rw [hw]; exact HP85.2); have hp_ : Kd.R Kd.bool 4 w86 w.heap.size (fun _ => True) (.slice (some ⟨go71, 0, none⟩) x7_3.length co66) y294 := (by rw [hw, Ny294.out]; exact HP85.1); clear HP85; have n0_ := Aside0.mk (hp_); have n1_ := Aside0.mk (Kd.R_over' (v := (.slice (some ⟨go71, 0, none⟩) x7_3.length co66)) (by (with_reducible repeat (first | apply Kd.R_alloc | apply Kd.R_drewN | apply Kd.R_drew)); exact HO_8.out) (Kd.R_typed HO_7.out) (by decide) hg); have n2_ := Aside0.mk ((by rw [hw]; exact below_set (HB.out) GB71.out : Below w.heap.size w w86)); clear HO_7; clear HO_8; clear HB; have HO_7 := n0_; have HO_8 := n1_; have HB := n2_; clear n0_ n1_ n2_; clear hg hw hp_; have p295 : 0 ≤ ((ji76) : Int) := of_decide_eq_true (by first | (with_reducible assumption) | assumption); have q295 : (ji76) < (l1.length : Int) := of_decide_eq_true (by first | (with_reducible assumption) | assumption); obtain ⟨ad295, e295, hx295_0⟩ := Kd.at_int HR1.out (ji76) p295 q295; cases e295; replace hx295_0 := (HB.out.cell (World.block_lt_of_cell? w _ hx295_0)).trans hx295_0; replace p295 := eq_true p295; replace q295 := eq_true q295; have p82 : 0 ≤ ((ji79) : Int) := of_decide_eq_true (by first | (with_reducible assumption) | assumption); have q82 : ((ji79) : Int) < ((x7_3.length : Int) : Int) := of_decide_eq_true (by first | (with_reducible assumption) | assumption); obtain ⟨hx82_0, hf82_0⟩ := Kd.R_celln false HO_7.out ((ji79) : Int) p82 q82; replace p82 := eq_true p82; replace q82 := eq_true q82; obtain ⟨hy87_, hz87_⟩ := Kd.R_celln false HO_7.out ((ji79) : Int) (of_decide_eq_true (by first | (with_reducible assumption) | assumption)) (of_decide_eq_true (by first | (with_reducible assumption) | assumption)); have HP87 := Kd.R_putg HO_7.out ((ji79) : Int) true) | ((with_reducible refine gate_store (t := 4) (p := 135) rfl ?_); refine store_event (t := 4) (p := 135) (v := ?vo_w88) (w1 := (w86.setCell ⟨go71, ((ji79) : Int).toNat, none⟩ (.bool true))) ?hg ?ho ?hn ?hr ?_; (case ho => rfl); (case hg => rfl); (case hn => rfl); (case hr => first | (go_simp; done) | (go_simp; rfl)); intro w88 hw; have hg : w86.grownBy w88 (some go71) := (by rw [hw]; exact HP87.2); have hp_ : Kd.R Kd.bool 4 w88 w.heap.size (fun _ => True) (.slice (some ⟨go71, 0, none⟩) x7_3.length co66) y296 := (by rw [hw, Ny296.out]; exact HP87.1); clear HP87; have n0_ := Aside0.mk (hp_); have n1_ := Aside0.mk (Kd.R_over' (v := (.slice (some ⟨go71, 0, none⟩) x7_3.length co66)) (by (with_reducible repeat (first | apply Kd.R_alloc | apply Kd.R_drewN | apply Kd.R_drew)); exact HO_8.out) (Kd.R_typed HO_7.out) (by decide) hg); have n2_ := Aside0.mk ((by rw [hw]; exact below_set (HB.out) GB71.out : Below w.heap.size w w88)); clear HO_7; clear HO_8; clear HB; have HO_7 := n0_; have HO_8 := n1_; have HB := n2_; clear n0_ n1_ n2_; clear hg hw hp_))
                          (try simp only [← hl7_3])
                          go_roundg k3
                          case measure => have := HK1.out; have := HK2.out; have := HK3.out; omega
                          case rel => exact ⟨(y296), (wrap64 ((ji79) - (wrap64 ((l0.length : Int) / 2)))), (by first | rfl | (simp; done) | (simp only [hji3, hji6]; done) | (simp only [← hji79] <;> (first | rfl | simp)) | (simp [*]; done)), H', ⟨by have := HK1.out; have := HK2.out; have := HK3.out; omega⟩, ⟨by (try simp only [hl7_3]); (with_reducible repeat (first | apply Kd.R_alloc | apply Kd.R_drewN | apply Kd.R_drew)); exact HO_7.out⟩, ⟨by (try simp only [hl7_3]); (with_reducible repeat (first | apply Kd.R_alloc | apply Kd.R_drewN | apply Kd.R_drew)); exact HO_8.out⟩, ⟨by repeat (first | (with_reducible first | exact HB.out | apply below_alloc | apply pw_below_drewN | apply below_drew1) | exact HB.out)⟩⟩
                         ·rw [if_neg c81] at H
                          exact absurd H (by simp)
                        ·rw [if_neg c80] at H
                         exact absurd H (by simp)
                       ·rw [if_neg c78] at H
                        exact absurd H (by simp)
                      ·rw [if_neg c77] at H
                       exact absurd H (by simp)
                     ·rw [if_neg c74] at H
                      exact absurd H (by simp)
                    ·rw [if_neg c73] at H
                     exact absurd H (by simp)
                   ·rw [if_neg c72] at H
                    exact absurd H (by simp)
                 ·rw [if_neg c68] at H
                  exact absurd H (by simp)
                ·rw [if_neg c67] at H
                 exact absurd H (by simp)
            ·rw [if_neg c62] at H
             exact absurd H (by simp)
           ·rw [if_neg c61] at H
            exact absurd H (by simp)
          ·rw [if_neg c60] at H
           have c60b0 : decide (x12_2 < (wrap64 (2 * (wrap64 ((l0.length : Int) / 2))))) = false := decide_eq_false c60
           (try simp only [hji3] at c60b0)
           (try simp only [hji6] at c60b0)
           (try simp only [hji25] at c60b0)
           (try simp only [hji48] at c60b0)
           (try simp only [hji54] at c60b0)
           (try simp only [hji76] at c60b0)
           (try simp only [hji79] at c60b0)
           clear c60
           simp only [Option.some.injEq, Prod.mk.injEq] at H
           obtain ⟨rfl, rfl⟩ := H
           go_wp2
           go_ret2
           exact ⟨_, by first | rfl | (simp [errW_none, errW_some] <;> rfl) | (simp only [← hji3, ← hji6]; first | rfl | (simp [errW_none, errW_some] <;> rfl)) | (simp [*, errW_none, errW_some] <;> rfl), by (with_reducible repeat (first | apply Kd.R_alloc | apply Kd.R_drewN | apply Kd.R_drew)); exact HO_8.out, by repeat (first | (with_reducible first | exact HB.out | apply below_alloc | apply pw_below_drewN | apply below_drew1) | exact HB.out)⟩
    ·rw [if_neg c8] at H
     exact absurd H (by simp)
   ·rw [if_neg c7] at H
    exact absurd H (by simp)
  ·rw [if_neg c5] at H
   exact absurd H (by simp)
 ·rw [if_neg c4] at H
  exact absurd H (by simp)
end Go.Proofs.Ytjfkompfkgjdaaa.PC
end
section
/- The product as the specification makes it is the gluing along the middle. -/
namespace Go.Proofs.Ytjfkompfkgjdaaa.L
open Go.RowKit Go.Proofs.Ytjfkompfkgjdaaa.PC Go.Proofs.YtjfkompfkgjdaaaW.PrintWords Go.Proofs.YtjfkompfkgjdaaaW.PrintLast Go.Proofs.Ytjfkompfkgjdaaa.G
theorem sg_step {n : Nat} {a b : List Int} (hn : n ≤ 500) (ha : LM n a) (hb : LM n b) (T : List Bool) (out : List Int) (i z : Nat) (hz : z < 4 * n) (k : Nat) :
    pomaderef07_product.l1 (k + 1) a b (n : Int) T out (i : Int) (z : Int) = pomaderef07_product.j3 k a b (n : Int) T out (i : Int) (sg n a b z : Int) := by
  have la := ha.len
  have lb := hb.len
  simp only [pomaderef07_product.l1]
  rw [pw64 (x := 2 * (n : Int)) (by omega) (by omega)]
  by_cases c : z < 2 * n
  · rw [if_pos (by omega), if_pos (by omega), if_pos (by omega), ha.nn z c, show sg n a b z = fn a z from jn_lo c]
  · obtain ⟨y, rfl⟩ : ∃ y, z = 2 * n + y := ⟨z - 2 * n, by omega⟩
    have hy : y < 2 * n := by omega
    have := (hb.mat y hy).1
    rw [if_neg (by omega), pw64 (x := ((2 * n + y : Nat) : Int) - 2 * (n : Int)) (by omega) (by omega), show ((2 * n + y : Nat) : Int) - 2 * (n : Int) = (y : Int) by omega, if_pos (by omega), if_pos (by omega), hb.nn y hy, pw64 (by omega) (by omega), show sg n a b (2 * n + y) = 2 * n + fn b y from jn_hi hy]
    congr 1
theorem j3_step {n : Nat} {a b : List Int} (hn : n ≤ 500) (T : List Bool) (hT : T.length = 4 * n) (out : List Int) (i x : Nat) (hx : x < 4 * n) (k : Nat) :
    pomaderef07_product.j3 (k + 1) a b (n : Int) T out (i : Int) (x : Int) = pomaderef07_product.j4 k a b (n : Int) (T.set x true) out (i : Int) (x : Int) (decide (x < n ∨ 3 * n ≤ x)) := by
  simp only [pomaderef07_product.j3]
  rw [if_pos (by omega), if_pos (by omega), Option.bind_some, pw64 (x := 3 * (n : Int)) (by omega) (by omega), Int.toNat_natCast]
  by_cases c : x < n
  · rw [if_pos (by omega), decide_eq_true (.inl c)]
  · rw [if_neg (by omega)]
    congr 1
    rw [decide_eq_decide]; omega
theorem ref_way {n : Nat} {a b : List Int} (hn : n ≤ 500) (ha : LM n a) (hb : LM n b) (P : Nat → Prop) (p0 : Nat) (out : List Int) (ho2 : out.length = 2 * n) (i : Nat) (hi : i < 2 * n) (d : Nat) : ∀ (z : Nat) (T : List Bool), z < 4 * n → T.length = 4 * n →
    ¬ pts (mids n) (itr (stp n a b) (d + 1) z) → (∀ i, i < d → pts (mids n) (itr (stp n a b) (i + 1) z)) →
    W1 (sg n a b) (tau (mids n)) (pts (mids n)) P p0 z (bM T) →
    ∃ q T', T'.length = 4 * n ∧ Path (sg n a b) (mids n) z q ∧ W0 (sg n a b) (tau (mids n)) (pts (mids n)) (fun u => P u ∨ u = p0) (bM T') ∧
      ∀ r, Ev (fun k => pomaderef07_product.l0 k a b (n : Int) T' (out.set i (une n q : Int)) ((i + 1 : Nat) : Int)) r → Ev (fun k => pomaderef07_product.l1 k a b (n : Int) T out (i : Int) (z : Int)) r := by
  have ho := mids_ok ha.mat hb.mat
  have hs := jn_inv ha.mat hb.mat
  have ht := tau_inv ho
  have bset : ∀ (T : List Bool) (x u : Nat), x < T.length → (bM (T.set x true) u ↔ bM T u ∨ u = x) := fun T x u h => getD_set T x u h
  induction d with
  | zero =>
    intro z T hz hT h1 _ hW
    have hn' : ¬ pts (mids n) (sg n a b z) := fun e => h1 (tau_pts ho e)
    have hlt : sg n a b z < 4 * n := jn_lt ha.mat hb.mat hz
    have hout := hn'
    rw [mids_pts] at hout
    refine ⟨sg n a b z, T.set (sg n a b z) true, by simpa using hT, .out _ hn', ?_, fun r hr => ?_⟩
    · have w := hW.fin hn'
      have same : ∀ u, pts (mids n) u → (bM (T.set (sg n a b z) true) u ↔ bM T u) := fun u hu => by
        rw [bset _ _ _ (by omega)]
        exact ⟨fun h => h.elim id (fun e => absurd (e ▸ hu) hn'), .inl⟩
      refine ⟨fun u hu => ?_, fun u hu h => ?_, fun u hu h => w.low u hu ((same u hu).1 h)⟩
      · by_cases m : pts (mids n) (sg n a b u)
        · have := w.cl u (hu.elim (fun h => .inl ⟨h.1, (same u h.1).1 h.2⟩) .inr)
          exact .inr ((same _ m).2 (this.resolve_left (fun f => f m)))
        · exact .inl m
      · exact (same _ (tau_pts ho hu)).2 (w.ct u hu ((same u hu).1 h))
    · refine Ev.step (fun k => sg_step hn ha hb T out i z hz k) (Ev.step (fun k => j3_step hn T hT out i _ hlt k) (Ev.step (fun k => ?_) hr))
      rw [decide_eq_true (by omega)]
      simp only [pomaderef07_product.j4]
      rw [if_pos trivial, pw64 (x := 3 * (n : Int)) (by omega) (by omega)]
      have e1 : wrap64 ((i : Int) + 1) = ((i + 1 : Nat) : Int) := by rw [pw64 (by omega) (by omega)]; rfl
      by_cases c : sg n a b z < n
      · rw [if_neg (by omega), if_pos (by omega), if_pos (by omega), Int.toNat_natCast, e1]
        unfold une; rw [if_pos c]
      · rw [if_pos (by omega), if_pos (by omega), if_pos (by omega), Int.toNat_natCast, e1, pw64 (x := 2 * (n : Int)) (by omega) (by omega), pw64 (by omega) (by omega)]
        unfold une; rw [if_neg c, show ((sg n a b z : Nat) : Int) - 2 * (n : Int) = ((sg n a b z - 2 * n : Nat) : Int) by omega]
  | succ d ih =>
    intro z T hz hT h1 h2 hW
    have h3 : pts (mids n) (sg n a b z) := by
      have := h2 0 (by omega)
      have e : itr (stp n a b) (0 + 1) z = tau (mids n) (sg n a b z) := rfl
      rw [e] at this
      have := tau_pts ho this
      rwa [ht] at this
    have h3' := mids_pts.1 h3
    have h4' := mids_pts.1 (tau_pts ho h3)
    have hM : ∀ u, pts (mids n) u → (bM ((T.set (sg n a b z) true).set (tau (mids n) (sg n a b z)) true) u ↔ bM T u ∨ u = sg n a b z ∨ u = tau (mids n) (sg n a b z)) := by
      intro u _
      rw [bset _ _ _ (by simp; omega), bset _ _ _ (by omega), or_assoc]
    obtain ⟨q, T', g1, g2, g3, g4⟩ := ih (tau (mids n) (sg n a b z)) _ (by omega) (by simpa using hT) h1 (fun i hi => h2 (i + 1) (by omega)) (hW.step hs ht (fun u hu => tau_pts ho hu) h3 hM)
    refine ⟨q, T', g1, .via _ _ h3 g2, g3, fun r hr => ?_⟩
    refine Ev.step (fun k => sg_step hn ha hb T out i z hz k) (Ev.step (fun k => j3_step hn T hT out i _ (by omega) k) (Ev.step (fun k => ?_) (g4 r hr)))
    rw [decide_eq_false (by omega)]
    simp only [pomaderef07_product.j4]
    rw [if_neg (by decide), pw64 (x := 2 * (n : Int)) (by omega) (by omega)]
    by_cases c : sg n a b z < 2 * n
    · have e : tau (mids n) (sg n a b z) = sg n a b z + n := by
        have := (tau_up ha.mat hb.mat (m := sg n a b z - n) (by omega)).1
        rw [show n + (sg n a b z - n) = sg n a b z by omega] at this
        rw [this]; omega
      rw [if_pos (by omega), pw64 (by omega) (by omega), if_pos (by omega), if_pos (by simp; omega), e]
      rfl
    · have e : tau (mids n) (sg n a b z) = sg n a b z - n := by
        have := (tau_up ha.mat hb.mat (m := sg n a b z - 2 * n) (by omega)).2
        rw [show 2 * n + (sg n a b z - 2 * n) = sg n a b z by omega] at this
        rw [this]; omega
      rw [if_neg (by omega), pw64 (by omega) (by omega), if_pos (by omega), if_pos (by simp; omega), e, show ((sg n a b z : Nat) : Int) - (n : Int) = ((sg n a b z - n : Nat) : Int) by omega]
      rfl
theorem ref_ways {n : Nat} {a b : List Int} (hn : n ≤ 500) (ha : LM n a) (hb : LM n b) (d : Nat) : ∀ (i : Nat) (out : List Int) (T : List Bool), i + d = 2 * n → out.length = 2 * n → T.length = 4 * n →
    (∀ j, j < i → rd out (j : Int) = (prod n (fn a) (fn b) j : Int)) →
    W0 (sg n a b) (tau (mids n)) (pts (mids n)) (fun u => ∃ j, j < i ∧ u = emb n j) (bM T) →
    ∃ T', T'.length = 4 * n ∧ W0 (sg n a b) (tau (mids n)) (pts (mids n)) (fun u => ∃ j, j < 2 * n ∧ u = emb n j) (bM T') ∧
      ∀ r, Ev (fun k => pomaderef07_product.l2 k a b (n : Int) T' (prodL n a b) 0 (n : Int)) r → Ev (fun k => pomaderef07_product.l0 k a b (n : Int) T out (i : Int)) r := by
  have ho := mids_ok ha.mat hb.mat
  have hs := jn_inv ha.mat hb.mat
  have ht := tau_inv ho
  induction d with
  | zero =>
    intro i out T hi hl hT hr hW
    obtain rfl : i = 2 * n := by omega
    have e : out = prodL n a b := list_eq (by rw [prodL_len, hl]) (fun z hz => by rw [prodL_rd (by omega), hr z (by omega)])
    refine ⟨T, hT, hW, fun r hr => Ev.step (fun k => ?_) hr⟩
    simp only [pomaderef07_product.l0]
    rw [pw64 (by omega) (by omega), if_neg (by omega), e]
  | succ d ih =>
    intro i out T hi hl hT hr hW
    have em := emb_out (n := n) (p := i) (by omega)
    obtain ⟨k, hk, h1, h2⟩ := leaves (f := stp n a b) (fun x y h => hs.inj (ht.inj h)) (pts (mids n)) (fun z => z - n) (2 * n) (fun z hz => by rw [mids_pts] at hz; omega) (fun u v hu hv h => by rw [mids_pts] at hu hv; omega) (emb n i) em.1
    have same : ∀ u, pts (mids n) u → (bM (T.set (emb n i) true) u ↔ bM T u) := fun u hu => by
      rw [show bM (T.set (emb n i) true) u ↔ _ from getD_set T _ u (by omega)]
      exact ⟨fun h => h.elim id (fun e => absurd (e ▸ hu) em.1), .inl⟩
    have w1 : W0 (sg n a b) (tau (mids n)) (pts (mids n)) (fun u => ∃ j, j < i ∧ u = emb n j) (bM (T.set (emb n i) true)) := by
      refine ⟨fun u hu => ?_, fun u hu h => ?_, fun u hu h => hW.low u hu ((same u hu).1 h)⟩
      · by_cases m : pts (mids n) (sg n a b u)
        · have := hW.cl u (hu.elim (fun h => .inl ⟨h.1, (same u h.1).1 h.2⟩) .inr)
          exact .inr ((same _ m).2 (this.resolve_left (fun f => f m)))
        · exact .inl m
      · exact (same _ (tau_pts ho hu)).2 (hW.ct u hu ((same u hu).1 h))
    obtain ⟨q, T1, g1, g2, g3, g4⟩ := ref_way hn ha hb _ (emb n i) out hl i (by omega) k (emb n i) (T.set (emb n i) true) em.2 (by simpa using hT) h1 h2 (w1.start em.1)
    rw [prod_path ha.mat hb.mat (by omega) g2] at g4
    obtain ⟨T', g5, g6, g7⟩ := ih (i + 1) (out.set i (prod n (fn a) (fn b) i : Int)) T1 (by omega) (by simpa using hl) g1 (by
      intro j hj
      rw [rd_set _ _ _ _ (by omega)]
      by_cases c : j = i
      · rw [if_pos c, c]
      · rw [if_neg c]; exact hr j (by omega)) (W0.congr g3 (fun u ⟨j, hj, hu⟩ => by
          by_cases c : j = i
          · exact .inr (c ▸ hu)
          · exact .inl ⟨j, by omega, hu⟩))
    refine ⟨T', g5, g6, fun r hr => ?_⟩
    refine Ev.step (f := fun k => pomaderef07_product.j1 k a b (n : Int) T out (i : Int) (emb n i : Int)) (fun k => ?_) (Ev.step (fun k => ?_) (g4 r (g7 r hr)))
    · simp only [pomaderef07_product.l0]
      rw [pw64 (x := 2 * (n : Int)) (by omega) (by omega), if_pos (by omega)]
      by_cases c : i < n
      · rw [if_neg (by omega), show emb n i = i by unfold emb; rw [if_pos c]]
      · rw [if_pos (by omega), pw64 (by omega) (by omega), show emb n i = i + 2 * n by unfold emb; rw [if_neg c]]
        rfl
    · simp only [pomaderef07_product.j1]
      rw [if_pos (by omega), if_pos (by omega), Int.toNat_natCast]
theorem ref_round {n : Nat} {a b : List Int} (hn : n ≤ 500) (ha : LM n a) (hb : LM n b) (T0 : List Bool) (out : List Int) (many : Int) (i : Nat) (hi : i < n) (c : Nat) : ∀ (m : Nat) (T : List Bool), T.count false ≤ c → T.length = 4 * n →
    (∀ m, m < n → ¬ CL n a b m → bM T (n + m)) → Rd (CL n a b) (fA n a) (fn b) (fun m => bM T0 (n + m)) (fun m => bM T (n + m)) i m →
    ∃ T', T'.length = 4 * n ∧ (∀ m, m < n → ¬ CL n a b m → bM T' (n + m)) ∧ (∀ m, CL n a b m → (bM T' (n + m) ↔ bM T0 (n + m) ∨ Conn (fA n a) (fn b) i m)) ∧
      ∀ r, Ev (fun k => pomaderef07_product.l2 k a b (n : Int) T' out many ((n + i + 1 : Nat) : Int)) r → Ev (fun k => pomaderef07_product.l3 k a b (n : Int) T out many ((n + i : Nat) : Int) ((n + m : Nat) : Int)) r := by
  obtain ⟨pa, pb⟩ := cl_pairs ha.mat hb.mat
  have hIx := cl_ixs ha.mat hb.mat
  have la := ha.len
  have lb := hb.len
  have stop : ∀ (m : Nat) (T : List Bool), T.length = 4 * n → m < n → bM T (n + m) → ∀ r, Ev (fun k => pomaderef07_product.l2 k a b (n : Int) T out many ((n + i + 1 : Nat) : Int)) r → Ev (fun k => pomaderef07_product.l3 k a b (n : Int) T out many ((n + i : Nat) : Int) ((n + m : Nat) : Int)) r := by
    intro m T hT hm ht r hr
    refine Ev.step (fun k => ?_) hr
    simp only [pomaderef07_product.l3]
    rw [if_pos (by omega), if_pos (by omega), if_pos (show rdOf false T ((n + m : Nat) : Int) = true from ht), pw64 (by omega) (by omega)]
    rfl
  induction c with
  | zero =>
    intro m T hc hT hU hR
    have hm := hR.uc.1
    have ht : bM T (n + m) := by
      unfold bM
      cases e : T.getD (n + m) false with
      | true => rfl
      | false => exact absurd (Nat.le_zero.1 hc) (count_pos (by omega) e)
    exact ⟨T, hT, hU, hR.fin pa pb ht, stop m T hT hm ht⟩
  | succ c ih =>
    intro m T hc hT hU hR
    have hm := hR.uc.1
    by_cases ht : bM T (n + m)
    · exact ⟨T, hT, hU, hR.fin pa pb ht, stop m T hT hm ht⟩
    · have uA := pa.mem m hR.uc
      have hA : fA n a m < n := uA.1
      have uB := pb.mem _ uA
      have hB : fn b (fA n a m) < n := uB.1
      have s1 := (hIx.sA m hR.uc).2
      simp only [up] at s1
      rw [jn_lo (by omega)] at s1
      have e := count_set T (n + m) (by omega) (by unfold bM at ht; simpa using ht)
      have e2 := count_set_le (T.set (n + m) true) (n + fA n a m)
      have e3 := count_set_le ((T.set (n + m) true).set (n + fA n a m) true) (2 * n + fn b (fA n a m))
      have bs : ∀ (T : List Bool) (x u : Nat), x < T.length → (bM (T.set x true) u ↔ bM T u ∨ u = x) := fun T x u h => getD_set T x u h
      have all : ∀ m', m' < n → (bM (((T.set (n + m) true).set (n + fA n a m) true).set (2 * n + fn b (fA n a m)) true) (n + m') ↔ bM T (n + m') ∨ m' = m ∨ m' = fA n a m) := by
        intro m' hm'
        rw [bs _ _ _ (by simp; omega), bs _ _ _ (by simp; omega), bs _ _ _ (by omega)]
        constructor
        · rintro (((h | h) | h) | h)
          · exact .inl h
          · exact .inr (.inl (by omega))
          · exact .inr (.inr (by omega))
          · omega
        · rintro (h | h | h)
          · exact .inl (.inl (.inl h))
          · exact .inl (.inl (.inr (by rw [h])))
          · exact .inl (.inr (by rw [h]))
      obtain ⟨T', g1, g2, g3, g4⟩ := ih (fn b (fA n a m)) _ (by omega) (by simpa using hT)
        (fun m' hm' h => (all m' hm').2 (.inl (hU m' hm' h))) (hR.step pa pb ht (fun m' um' => all m' um'.1))
      refine ⟨T', g1, g2, g3, fun r hr => ?_⟩
      refine Ev.step (fun k => ?_) (g4 r hr)
      simp only [pomaderef07_product.l3]
      have f1 : rd a ((n + m : Nat) : Int) = ((n + fA n a m : Nat) : Int) := by rw [ha.nn _ (by omega), s1]
      have f2 : rd b ((fA n a m : Nat) : Int) = (fn b (fA n a m) : Int) := hb.nn _ (by omega)
      rw [if_pos (by omega), if_pos (by omega), if_neg (show ¬ rdOf false T ((n + m : Nat) : Int) = true from ht), if_pos (by omega), f1, if_pos (by omega), if_pos (by omega), pw64 (x := ((n + fA n a m : Nat) : Int) - (n : Int)) (by omega) (by omega), show ((n + fA n a m : Nat) : Int) - (n : Int) = (fA n a m : Int) by omega, if_pos (by omega), if_pos (by omega), f2, pw64 (x := 2 * (n : Int)) (by omega) (by omega), pw64 (x := 2 * (n : Int) + (fn b (fA n a m) : Int)) (by omega) (by omega), if_pos (by omega), if_pos (by omega), pw64 (by omega) (by omega), show 2 * (n : Int) + (fn b (fA n a m) : Int) - (n : Int) = ((n + fn b (fA n a m) : Nat) : Int) by omega, show (2 * (n : Int) + (fn b (fA n a m) : Int)).toNat = 2 * n + fn b (fA n a m) by omega]
      rfl
theorem ref_loops {n : Nat} {a b : List Int} (hn : n ≤ 500) (ha : LM n a) (hb : LM n b) (out : List Int) (d : Nat) : ∀ (i : Nat) (T : List Bool), i + d = n → T.length = 4 * n →
    (∀ m, m < n → ¬ CL n a b m → bM T (n + m)) → MetI (CL n a b) (fA n a) (fn b) i (fun m => bM T (n + m)) →
    Ev (fun k => pomaderef07_product.l2 k a b (n : Int) T out (cntP (Fst (CL n a b) (fA n a) (fn b)) i : Int) ((n + i : Nat) : Int)) (out, (cntP (Fst (CL n a b) (fA n a) (fn b)) n : Int)) := by
  obtain ⟨pa, pb⟩ := cl_pairs ha.mat hb.mat
  induction d with
  | zero =>
    intro i T hi hT hU hM
    obtain rfl : i = n := by omega
    refine Ev.step (f := fun _ => some (out, (cntP (Fst (CL i a b) (fA i a) (fn b)) i : Int))) (fun k => ?_) (Ev.now _)
    simp only [pomaderef07_product.l2]
    rw [pw64 (by omega) (by omega), if_neg (by omega)]
  | succ d ih =>
    intro i T hi hT hU hM
    have hle := cntP_le (Fst (CL n a b) (fA n a) (fn b)) i
    by_cases c : bM T (n + i)
    · obtain ⟨m1, m2⟩ := hM.skip (fun _ => c)
      have := ih (i + 1) T (by omega) hT hU m1
      simp only [cntP] at this
      rw [if_neg m2] at this
      refine Ev.step (fun k => ?_) this
      simp only [pomaderef07_product.l2]
      rw [pw64 (x := 2 * (n : Int)) (by omega) (by omega), if_pos (by omega), if_pos (by omega), if_pos (by omega), if_pos (show rdOf false T ((n + i : Nat) : Int) = true from c), pw64 (by omega) (by omega)]
      rfl
    · have ui : CL n a b i := Classical.byContradiction fun e => c (hU i (by omega) e)
      obtain ⟨ca, cb⟩ := hM.closed pa pb
      obtain ⟨m2, g1, g2, g3, g4⟩ := ref_round hn ha hb T out (cntP (Fst (CL n a b) (fA n a) (fn b)) i + 1 : Nat) i (by omega) _ i T (Nat.le_refl _) hT hU (Rd.start pa pb ca cb ui c)
      obtain ⟨n1, n2⟩ := hM.round ui c g3
      have := ih (i + 1) m2 (by omega) g1 g2 n1
      simp only [cntP] at this
      rw [if_pos n2] at this
      refine Ev.step (fun k => ?_) (g4 _ this)
      simp only [pomaderef07_product.l2]
      rw [pw64 (x := 2 * (n : Int)) (by omega) (by omega), if_pos (by omega), if_pos (by omega), if_pos (by omega), if_neg (show ¬ rdOf false T ((n + i : Nat) : Int) = true from c), pw64 (by omega) (by omega)]
      rfl
/-- the specification's product is the gluing -/
theorem ref_product {n : Nat} {a b : List Int} (hn : n ≤ 500) (ha : LM n a) (hb : LM n b) : Ev (fun k => pomaderef07_product.f k a b) (prodL n a b, (lops n (fn a) (fn b) : Int)) := by
  have ho := mids_ok ha.mat hb.mat
  have la := ha.len
  have w0 : W0 (sg n a b) (tau (mids n)) (pts (mids n)) (fun u => ∃ j, j < 0 ∧ u = emb n j) (bM (List.replicate (4 * n) false)) := by
    have no : ∀ u, ¬ bM (List.replicate (4 * n) false) u := fun u h => by
      unfold bM at h
      rw [List.getD_eq_getElem?_getD, List.getElem?_replicate] at h
      split at h <;> simp at h
    exact ⟨fun u hu => hu.elim (fun h => absurd h.2 (no u)) (fun h => by obtain ⟨j, hj, _⟩ := h.2; omega), fun u _ h => absurd h (no u), fun u _ h => absurd h (no u)⟩
  obtain ⟨T, g1, g2, g3⟩ := ref_ways hn ha hb (2 * n) 0 (List.replicate (2 * n) 0) (List.replicate (4 * n) false) (by omega) (by simp) (by simp) (fun j hj => by omega) w0
  have all := g2.all (fun u hu => (tau_out ho).2 hu) (fun u hu => by
    by_cases c : u < 4 * n
    · have e := emb_une hu c; exact .inl ⟨une n u, e.2, e.1.symm⟩
    · exact .inr (jn_off (by omega)))
  have hT : ∀ m, m < n → (bM T (n + m) ↔ ¬ CL n a b m) := fun m hm => by
    rw [← met_cl ha.mat hb.mat hm, ← all (n + m) (mids_pts.2 (by omega))]
  have g4 := ref_loops hn ha hb (prodL n a b) n 0 T (by omega) g1 (fun m hm h => (hT m hm).2 h) (fun m um => ⟨fun t => absurd um ((hT m um.1).1 t), fun ⟨j, hj, _⟩ => by omega⟩)
  rw [← lops_fst ha.mat hb.mat] at g4
  have g5 := g3 _ g4
  refine Ev.congr (fun k => ?_) g5
  have e : wrap64 ((a.length : Int) / 2) = (n : Int) := by rw [pw64 (by omega) (by omega)]; omega
  have e4 : wrap64 (4 * (n : Int)) = ((4 * n : Nat) : Int) := by rw [pw64 (by omega) (by omega)]; omega
  have e2 : wrap64 (2 * (n : Int)) = ((2 * n : Nat) : Int) := by rw [pw64 (by omega) (by omega)]; omega
  unfold pomaderef07_product.f
  rw [e, e4, e2, if_pos (by omega), if_pos (by omega), if_pos (by omega), if_pos (by omega), Int.toNat_natCast, Int.toNat_natCast]
  rfl
end Go.Proofs.Ytjfkompfkgjdaaa.L
end
section
namespace Go.Proofs.Ytjfkompfkgjdaaa.PC
open Go.RowKit Go.Proofs.YtjfkompfkgjdaaaW.PrintWords Go.Proofs.YtjfkompfkgjdaaaW.PrintLast Go.Proofs.YtjfkompfkgjdaaaW.PrintMore
attribute [local go_sem] max2_int min2_int max_two min_two max_three min_three max_four min_four   -- for this text's walks alone
set_option linter.unusedVariables false
set_option linter.unusedSimpArgs false
/-! ### pomaderef07_Hook: function 52 -/
def pomaderef07_Hook.f (k : Nat) (a0 : Int) (a1 : Int) : Option (List Int) := (pomaderef07_Identity.f k a0).bind fun t354 => (if 0 ≤ a1 then (if a1 < (t354.length : Int) then (if 0 ≤ (wrap64 (a1 + 1)) then (if (wrap64 (a1 + 1)) < (t354.length : Int) then (if 0 ≤ (wrap64 (a0 + a1)) then (if (wrap64 (a0 + a1)) < (t354.length : Int) then (if 0 ≤ (wrap64 ((wrap64 (a0 + a1)) + 1)) then (if (wrap64 ((wrap64 (a0 + a1)) + 1)) < (t354.length : Int) then (some ((((t354.set (a1 : Int).toNat (wrap64 (a1 + 1))).set ((wrap64 (a1 + 1)) : Int).toNat a1).set ((wrap64 (a0 + a1)) : Int).toNat (wrap64 ((wrap64 (a0 + a1)) + 1))).set ((wrap64 ((wrap64 (a0 + a1)) + 1)) : Int).toNat (wrap64 (a0 + a1)))) else (none)) else (none)) else (none)) else (none)) else (none)) else (none)) else (none)) else (none))
theorem pomaderef07_Hook.mono : ∀ a0 a1 k, LeO (pomaderef07_Hook.f k a0 a1) (pomaderef07_Hook.f (k + 1) a0 a1) := by
 intro a0 a1 k
 unfold pomaderef07_Hook.f
 repeat' first
   | (with_reducible exact pomaderef07_Identity.mono _ _)
   | (with_reducible exact LeO.refl _)
   | (with_reducible exact LeO.none _)
   | (with_reducible refine LeO.ite ?_ ?_)
   | (with_reducible refine LeO.bind ?_ (fun _ => ?_))
   | exact pomaderef07_Identity.mono _ _
   | exact LeO.none _
   | refine LeO.ite ?_ ?_
   | refine LeO.bind ?_ (fun _ => ?_)
set_option maxHeartbeats 8000000 in
set_option maxRecDepth 100000 in
theorem pomaderef07_Hook.calls (k : Nat) (a0 : Int) (a1 : Int) (r : List Int) (w : World) (h : pomaderef07_Hook.f k a0 a1 = some r) :
  Calls Try.prog 52 #[.int .i64 a0, .int .i64 a1] w fun e w' => ∃ v0_ : Value, e = .returned (v0_) ∧ Kd.R (Kd.int .i64) 3 w' w.heap.size (fun _ => True) v0_ r ∧ Below w.heap.size w w' := by
 have HB := Aside0.mk (Below.refl w.heap.size w)
 have H : ((pomaderef07_Identity.f k a0).bind fun t354 => (if 0 ≤ a1 then (if a1 < (t354.length : Int) then (if 0 ≤ (wrap64 (a1 + 1)) then (if (wrap64 (a1 + 1)) < (t354.length : Int) then (if 0 ≤ (wrap64 (a0 + a1)) then (if (wrap64 (a0 + a1)) < (t354.length : Int) then (if 0 ≤ (wrap64 ((wrap64 (a0 + a1)) + 1)) then (if (wrap64 ((wrap64 (a0 + a1)) + 1)) < (t354.length : Int) then (some ((((t354.set (a1 : Int).toNat (wrap64 (a1 + 1))).set ((wrap64 (a1 + 1)) : Int).toNat a1).set ((wrap64 (a0 + a1)) : Int).toNat (wrap64 ((wrap64 (a0 + a1)) + 1))).set ((wrap64 ((wrap64 (a0 + a1)) + 1)) : Int).toNat (wrap64 (a0 + a1)))) else (none)) else (none)) else (none)) else (none)) else (none)) else (none)) else (none)) else (none))) = some r := h
 clear h
 replace H := Option.bind_eq_some_iff.mp H
 obtain ⟨t354, A30, H⟩ := H
 replace H : (if 0 ≤ a1 then (if a1 < (t354.length : Int) then (if 0 ≤ (wrap64 (a1 + 1)) then (if (wrap64 (a1 + 1)) < (t354.length : Int) then (if 0 ≤ (wrap64 (a0 + a1)) then (if (wrap64 (a0 + a1)) < (t354.length : Int) then (if 0 ≤ (wrap64 ((wrap64 (a0 + a1)) + 1)) then (if (wrap64 ((wrap64 (a0 + a1)) + 1)) < (t354.length : Int) then (some ((((t354.set (a1 : Int).toNat (wrap64 (a1 + 1))).set ((wrap64 (a1 + 1)) : Int).toNat a1).set ((wrap64 (a0 + a1)) : Int).toNat (wrap64 ((wrap64 (a0 + a1)) + 1))).set ((wrap64 ((wrap64 (a0 + a1)) + 1)) : Int).toNat (wrap64 (a0 + a1)))) else (none)) else (none)) else (none)) else (none)) else (none)) else (none)) else (none)) else (none)) = some r := H
 have A3 := Aside0.mk A30
 clear A30
 by_cases c4 : 0 ≤ a1
 ·rw [if_pos c4] at H
  have c4b0 : decide (0 ≤ a1) = true := decide_eq_true c4
  clear c4
  by_cases c5 : a1 < (t354.length : Int)
  ·rw [if_pos c5] at H
   have c5b0 : decide (a1 < (t354.length : Int)) = true := decide_eq_true c5
   clear c5
   obtain ⟨y357, hy357⟩ : ∃ y_ : List Int, y_ = (t354.set (a1 : Int).toNat (wrap64 (a1 + 1))) := ⟨_, rfl⟩
   replace H : (if 0 ≤ (wrap64 (a1 + 1)) then (if (wrap64 (a1 + 1)) < (t354.length : Int) then (if 0 ≤ (wrap64 (a0 + a1)) then (if (wrap64 (a0 + a1)) < (t354.length : Int) then (if 0 ≤ (wrap64 ((wrap64 (a0 + a1)) + 1)) then (if (wrap64 ((wrap64 (a0 + a1)) + 1)) < (t354.length : Int) then (some (((y357.set ((wrap64 (a1 + 1)) : Int).toNat a1).set ((wrap64 (a0 + a1)) : Int).toNat (wrap64 ((wrap64 (a0 + a1)) + 1))).set ((wrap64 ((wrap64 (a0 + a1)) + 1)) : Int).toNat (wrap64 (a0 + a1)))) else (none)) else (none)) else (none)) else (none)) else (none)) else (none)) = some r := by first | (rw [hy357]; with_reducible exact H) | (have H2_ := (Option.bind_some _ _).symm.trans H; rw [hy357]; with_reducible exact H2_) | (have H2_ := (Option.bind_some _ _).symm.trans H; with_reducible exact H2_) | with_reducible exact H | (rw [hy357]; exact H) | exact H
   have Ny357 := Aside0.mk hy357
   clear hy357
   obtain ⟨ji7, hji7⟩ : ∃ j_ : Int, (wrap64 (a1 + 1)) = j_ := ⟨_, rfl⟩
   replace H : (if 0 ≤ (ji7) then (if (ji7) < (t354.length : Int) then (if 0 ≤ (wrap64 (a0 + a1)) then (if (wrap64 (a0 + a1)) < (t354.length : Int) then (if 0 ≤ (wrap64 ((wrap64 (a0 + a1)) + 1)) then (if (wrap64 ((wrap64 (a0 + a1)) + 1)) < (t354.length : Int) then (some (((y357.set ((ji7) : Int).toNat a1).set ((wrap64 (a0 + a1)) : Int).toNat (wrap64 ((wrap64 (a0 + a1)) + 1))).set ((wrap64 ((wrap64 (a0 + a1)) + 1)) : Int).toNat (wrap64 (a0 + a1)))) else (none)) else (none)) else (none)) else (none)) else (none)) else (none)) = some r := by first | (rw [hji7] at H; exact H) | (simp only [hji7] at H ⊢; exact H)
   (try rw [hji7] at A3)
   (try rw [hji7] at Ny357)
   have hji7w : (IntKind.i64.wrap (a1 + 1)) = ji7 := (i64_w _).trans hji7
   by_cases c8 : 0 ≤ (ji7)
   ·rw [if_pos c8] at H
    have c8b0 : decide (0 ≤ (ji7)) = true := decide_eq_true c8
    clear c8
    by_cases c9 : (ji7) < (t354.length : Int)
    ·rw [if_pos c9] at H
     have c9b0 : decide ((ji7) < (t354.length : Int)) = true := decide_eq_true c9
     clear c9
     obtain ⟨y358, hy358⟩ : ∃ y_ : List Int, y_ = (y357.set ((ji7) : Int).toNat a1) := ⟨_, rfl⟩
     replace H : (if 0 ≤ (wrap64 (a0 + a1)) then (if (wrap64 (a0 + a1)) < (t354.length : Int) then (if 0 ≤ (wrap64 ((wrap64 (a0 + a1)) + 1)) then (if (wrap64 ((wrap64 (a0 + a1)) + 1)) < (t354.length : Int) then (some ((y358.set ((wrap64 (a0 + a1)) : Int).toNat (wrap64 ((wrap64 (a0 + a1)) + 1))).set ((wrap64 ((wrap64 (a0 + a1)) + 1)) : Int).toNat (wrap64 (a0 + a1)))) else (none)) else (none)) else (none)) else (none)) = some r := by first | (rw [hy358]; with_reducible exact H) | (have H2_ := (Option.bind_some _ _).symm.trans H; rw [hy358]; with_reducible exact H2_) | (have H2_ := (Option.bind_some _ _).symm.trans H; with_reducible exact H2_) | with_reducible exact H | (rw [hy358]; exact H) | exact H
     have Ny358 := Aside0.mk hy358
     clear hy358
     obtain ⟨ji11, hji11⟩ : ∃ j_ : Int, (wrap64 (a0 + a1)) = j_ := ⟨_, rfl⟩
     replace H : (if 0 ≤ (ji11) then (if (ji11) < (t354.length : Int) then (if 0 ≤ (wrap64 ((ji11) + 1)) then (if (wrap64 ((ji11) + 1)) < (t354.length : Int) then (some ((y358.set ((ji11) : Int).toNat (wrap64 ((ji11) + 1))).set ((wrap64 ((ji11) + 1)) : Int).toNat (ji11))) else (none)) else (none)) else (none)) else (none)) = some r := by first | (rw [hji11] at H; exact H) | (simp only [hji11] at H ⊢; exact H)
     (try rw [hji11] at A3)
     have hji11w : (IntKind.i64.wrap (a0 + a1)) = ji11 := (i64_w _).trans hji11
     by_cases c12 : 0 ≤ (ji11)
     ·rw [if_pos c12] at H
      have c12b0 : decide (0 ≤ (ji11)) = true := decide_eq_true c12
      clear c12
      by_cases c13 : (ji11) < (t354.length : Int)
      ·rw [if_pos c13] at H
       have c13b0 : decide ((ji11) < (t354.length : Int)) = true := decide_eq_true c13
       clear c13
       obtain ⟨y359, hy359⟩ : ∃ y_ : List Int, y_ = (y358.set ((ji11) : Int).toNat (wrap64 ((ji11) + 1))) := ⟨_, rfl⟩
       replace H : (if 0 ≤ (wrap64 ((ji11) + 1)) then (if (wrap64 ((ji11) + 1)) < (t354.length : Int) then (some (y359.set ((wrap64 ((ji11) + 1)) : Int).toNat (ji11))) else (none)) else (none)) = some r := by first | (rw [hy359]; with_reducible exact H) | (have H2_ := (Option.bind_some _ _).symm.trans H; rw [hy359]; with_reducible exact H2_) | (have H2_ := (Option.bind_some _ _).symm.trans H; with_reducible exact H2_) | with_reducible exact H | (rw [hy359]; exact H) | exact H
       have Ny359 := Aside0.mk hy359
       clear hy359
       obtain ⟨ji15, hji15⟩ : ∃ j_ : Int, (wrap64 ((ji11) + 1)) = j_ := ⟨_, rfl⟩
       replace H : (if 0 ≤ (ji15) then (if (ji15) < (t354.length : Int) then (some (y359.set ((ji15) : Int).toNat (ji11))) else (none)) else (none)) = some r := by first | (rw [hji15] at H; exact H) | (simp only [hji15] at H ⊢; exact H)
       (try rw [hji15] at A3)
       (try rw [hji15] at Ny359)
       have hji15w : (IntKind.i64.wrap ((ji11) + 1)) = ji15 := (i64_w _).trans hji15
       by_cases c16 : 0 ≤ (ji15)
       ·rw [if_pos c16] at H
        have c16b0 : decide (0 ≤ (ji15)) = true := decide_eq_true c16
        clear c16
        by_cases c17 : (ji15) < (t354.length : Int)
        ·rw [if_pos c17] at H
         have c17b0 : decide ((ji15) < (t354.length : Int)) = true := decide_eq_true c17
         clear c17
         obtain ⟨y360, hy360⟩ : ∃ y_ : List Int, y_ = (y359.set ((ji15) : Int).toNat (ji11)) := ⟨_, rfl⟩
         replace H : (some y360) = some r := by first | (rw [hy360]; with_reducible exact H) | (have H2_ := (Option.bind_some _ _).symm.trans H; rw [hy360]; with_reducible exact H2_) | (have H2_ := (Option.bind_some _ _).symm.trans H; with_reducible exact H2_) | with_reducible exact H | (rw [hy360]; exact H) | exact H
         have Ny360 := Aside0.mk hy360
         clear hy360
         obtain rfl := Option.some.inj H
         go_enter Try.func52, Try.ntmps52
         go_wp2_with (first | ((with_reducible refine gate_callee (f := 28) rfl ?_); refine goesL_ (some 7) rfl rfl Try.func28 (by kernel_rfl) rfl #[.int .i64 a0] rfl (by (try simp only [List.map_toArray, List.map_cons, List.map_nil]); first | done | rfl | (simp only [List.length_drop, List.length_take]; rfl)) ?_; (with_reducible refine (pomaderef07_Identity.calls k a0 t354 _ A3.out).mono ?_); rintro e w19 ⟨v355, rfl, ho0, hb⟩; refine ⟨_, rfl, ?_⟩; have n0_ := Aside0.mk (Kd.R_lower ho0 (below_size (by repeat (first | (with_reducible first | exact HB.out | apply below_alloc | apply pw_below_drewN | apply below_drew1) | exact HB.out)))); have n1_ := Aside0.mk (below_step (by repeat (first | (with_reducible first | exact HB.out | apply below_alloc | apply pw_below_drewN | apply below_drew1) | exact HB.out)) hb); clear HB; have HO356 := n0_; have HB := n1_; clear n0_ n1_; (try clear hb); (try clear hb2); (try clear hk); (try clear hi); (try clear ho0); have p6 : 0 ≤ (a1 : Int) := of_decide_eq_true (by first | (with_reducible assumption) | assumption); have q6 : (a1 : Int) < ((t354.length : Int) : Int) := of_decide_eq_true (by first | (with_reducible assumption) | assumption); obtain ⟨go6, co6, eo6, gb6, gl6, cl6, HG6⟩ := Kd.R_form HO356.out (by omega); (first | cases eo6 | (injection eo6 with ea_ en_ ec_; (first | subst ea_ | (injection ea_ with ea_; subst ea_)); subst ec_; clear en_)); have GB6 := Aside0.mk gb6; have GG6 := Aside0.mk HG6; clear gb6 gl6 HG6; obtain ⟨hx6_0, hf6_0⟩ := Kd.R_celln 0 HO356.out (a1 : Int) p6 q6; replace p6 := eq_true p6; replace q6 := eq_true q6; obtain ⟨hy20_, hz20_⟩ := Kd.R_celln 0 HO356.out (a1 : Int) (of_decide_eq_true (by first | (with_reducible assumption) | assumption)) (of_decide_eq_true (by first | (with_reducible assumption) | assumption)); have HP20 := Kd.R_putg HO356.out (a1 : Int) ji7) | ((with_reducible refine gate_store (t := 3) (p := 12) rfl ?_); refine store_event (t := 3) (p := 12) (v := ?vo_w21) (w1 := (w19.setCell ⟨go6, (a1 : Int).toNat, none⟩ (.int .i64 ji7))) ?hg ?ho ?hn ?hr ?_; (case ho => rfl); (case hg => rfl); (case hn => rfl); (case hr => first | (go_simp; done) | (go_simp; rfl)); intro w21 hw; have hg : w19.grownBy w21 (some go6) := (by rw [hw]; exact HP20.2); have hp_ : Kd.R (Kd.int .i64) 3 w21 w.heap.size (fun _ => True) (.slice (some ⟨go6, 0, none⟩) t354.length co6) y357 := (by rw [hw, Ny357.out]; exact HP20.1); clear HP20; have n0_ := Aside0.mk (hp_); have n1_ := Aside0.mk ((by rw [hw]; exact below_set (HB.out) GB6.out : Below w.heap.size w w21)); clear HO356; clear HB; have HO356 := n0_; have HB := n1_; clear n0_ n1_; clear hg hw hp_; have p10 : 0 ≤ ((ji7) : Int) := of_decide_eq_true (by first | (with_reducible assumption) | assumption); have q10 : ((ji7) : Int) < ((t354.length : Int) : Int) := of_decide_eq_true (by first | (with_reducible assumption) | assumption); obtain ⟨hx10_0, hf10_0⟩ := Kd.R_celln 0 HO356.out ((ji7) : Int) p10 q10; replace p10 := eq_true p10; replace q10 := eq_true q10; obtain ⟨hy22_, hz22_⟩ := Kd.R_celln 0 HO356.out ((ji7) : Int) (of_decide_eq_true (by first | (with_reducible assumption) | assumption)) (of_decide_eq_true (by first | (with_reducible assumption) | assumption)); have HP22 := Kd.R_putg HO356.out ((ji7) : Int) a1) | ((with_reducible refine gate_store (t := 3) (p := 17) rfl ?_); refine store_event (t := 3) (p := 17) (v := ?vo_w23) (w1 := (w21.setCell ⟨go6, ((ji7) : Int).toNat, none⟩ (.int .i64 a1))) ?hg ?ho ?hn ?hr ?_; (case ho => rfl); (case hg => rfl); (case hn => rfl); (case hr => first | (go_simp; done) | (go_simp; rfl)); intro w23 hw; have hg : w21.grownBy w23 (some go6) := (by rw [hw]; exact HP22.2); have hp_ : Kd.R (Kd.int .i64) 3 w23 w.heap.size (fun _ => True) (.slice (some ⟨go6, 0, none⟩) t354.length co6) y358 := (by rw [hw, Ny358.out]; exact HP22.1); clear HP22; have n0_ := Aside0.mk (hp_); have n1_ := Aside0.mk ((by rw [hw]; exact below_set (HB.out) GB6.out : Below w.heap.size w w23)); clear HO356; clear HB; have HO356 := n0_; have HB := n1_; clear n0_ n1_; clear hg hw hp_; have p14 : 0 ≤ ((ji11) : Int) := of_decide_eq_true (by first | (with_reducible assumption) | assumption); have q14 : ((ji11) : Int) < ((t354.length : Int) : Int) := of_decide_eq_true (by first | (with_reducible assumption) | assumption); obtain ⟨hx14_0, hf14_0⟩ := Kd.R_celln 0 HO356.out ((ji11) : Int) p14 q14; replace p14 := eq_true p14; replace q14 := eq_true q14; obtain ⟨hy24_, hz24_⟩ := Kd.R_celln 0 HO356.out ((ji11) : Int) (of_decide_eq_true (by first | (with_reducible assumption) | assumption)) (of_decide_eq_true (by first | (with_reducible assumption) | assumption)); have HP24 := Kd.R_putg HO356.out ((ji11) : Int) ji15) | ((with_reducible refine gate_store (t := 3) (p := 26) rfl ?_); refine store_event (t := 3) (p := 26) (v := ?vo_w25) (w1 := (w23.setCell ⟨go6, ((ji11) : Int).toNat, none⟩ (.int .i64 ji15))) ?hg ?ho ?hn ?hr ?_; (case ho => rfl); (case hg => rfl); (case hn => rfl); (case hr => first | (go_simp; done) | (go_simp; rfl)); intro w25 hw; have hg : w23.grownBy w25 (some go6) := (by rw [hw]; exact HP24.2); have hp_ : Kd.R (Kd.int .i64) 3 w25 w.heap.size (fun _ => True) (.slice (some ⟨go6, 0, none⟩) t354.length co6) y359 := (by rw [hw, Ny359.out]; exact HP24.1); clear HP24; have n0_ := Aside0.mk (hp_); have n1_ := Aside0.mk ((by rw [hw]; exact below_set (HB.out) GB6.out : Below w.heap.size w w25)); clear HO356; clear HB; have HO356 := n0_; have HB := n1_; clear n0_ n1_; clear hg hw hp_; have p18 : 0 ≤ ((ji15) : Int) := of_decide_eq_true (by first | (with_reducible assumption) | assumption); have q18 : ((ji15) : Int) < ((t354.length : Int) : Int) := of_decide_eq_true (by first | (with_reducible assumption) | assumption); obtain ⟨hx18_0, hf18_0⟩ := Kd.R_celln 0 HO356.out ((ji15) : Int) p18 q18; replace p18 := eq_true p18; replace q18 := eq_true q18; obtain ⟨hy26_, hz26_⟩ := Kd.R_celln 0 HO356.out ((ji15) : Int) (of_decide_eq_true (by first | (with_reducible assumption) | assumption)) (of_decide_eq_true (by first | (with_reducible assumption) | assumption)); have HP26 := Kd.R_putg HO356.out ((ji15) : Int) ji11) | ((with_reducible refine gate_store (t := 3) (p := 35) rfl ?_); refine store_event (t := 3) (p := 35) (v := ?vo_w27) (w1 := (w25.setCell ⟨go6, ((ji15) : Int).toNat, none⟩ (.int .i64 ji11))) ?hg ?ho ?hn ?hr ?_; (case ho => rfl); (case hg => rfl); (case hn => rfl); (case hr => first | (go_simp; done) | (go_simp; rfl)); intro w27 hw; have hg : w25.grownBy w27 (some go6) := (by rw [hw]; exact HP26.2); have hp_ : Kd.R (Kd.int .i64) 3 w27 w.heap.size (fun _ => True) (.slice (some ⟨go6, 0, none⟩) t354.length co6) y360 := (by rw [hw, Ny360.out]; exact HP26.1); clear HP26; have n0_ := Aside0.mk (hp_); have n1_ := Aside0.mk ((by rw [hw]; exact below_set (HB.out) GB6.out : Below w.heap.size w w27)); clear HO356; clear HB; have HO356 := n0_; have HB := n1_; clear n0_ n1_; clear hg hw hp_))
         go_ret
         exact ⟨_, by first | rfl | (simp [errW_none, errW_some] <;> rfl) | (simp only [← hji7, ← hji11, ← hji15]; first | rfl | (simp [errW_none, errW_some] <;> rfl)) | (simp [*, errW_none, errW_some] <;> rfl), by (with_reducible repeat (first | apply Kd.R_alloc | apply Kd.R_drewN | apply Kd.R_drew)); exact HO356.out, by repeat (first | (with_reducible first | exact HB.out | apply below_alloc | apply pw_below_drewN | apply below_drew1) | exact HB.out)⟩
        ·rw [if_neg c17] at H
         exact absurd H (by simp)
       ·rw [if_neg c16] at H
        exact absurd H (by simp)
      ·rw [if_neg c13] at H
       exact absurd H (by simp)
     ·rw [if_neg c12] at H
      exact absurd H (by simp)
    ·rw [if_neg c9] at H
     exact absurd H (by simp)
   ·rw [if_neg c8] at H
    exact absurd H (by simp)
  ·rw [if_neg c5] at H
   exact absurd H (by simp)
 ·rw [if_neg c4] at H
  exact absurd H (by simp)
/-! ### pomaderef07_Hooks: function 50 -/
mutual
def pomaderef07_Hooks.j0 : Nat → Int → List Int → Bool → Option (List Int × Int × Int)
 | 0, _, _, _ => none
 | k + 1, x0, x1, x18 => if x18 = true then (some (([] : List Int), 0, 2)) else (if (x1.length : Int) > 200 then (some (([] : List Int), 0, 3)) else (pomaderef07_Hooks.l0 k x0 x1 0))
def pomaderef07_Hooks.l0 : Nat → Int → List Int → Int → Option (List Int × Int × Int)
 | 0, _, _, _ => none
 | k + 1, x0, x1, x7 => if x7 < (x1.length : Int) then (if 0 ≤ x7 then (if (rd x1 x7) < 0 then (some (([] : List Int), 0, 2)) else (if (rd x1 x7) > (wrap64 (x0 - 2)) then (some (([] : List Int), 0, 2)) else (pomaderef07_Hooks.l0 k x0 x1 (wrap64 (x7 + 1))))) else (none)) else ((pomaderef07_Identity.f k x0).bind fun t363 => (pomaderef07_Hooks.l1 k x0 x1 t363 0 0))
def pomaderef07_Hooks.l1 : Nat → Int → List Int → List Int → Int → Int → Option (List Int × Int × Int)
 | 0, _, _, _, _, _ => none
 | k + 1, x0, x1, x8, x9, x10 => if x10 < (x1.length : Int) then (if 0 ≤ x10 then ((pomaderef07_Hook.f k x0 (rd x1 x10)).bind fun t367 => ((pomaderef07_product.f k x8 t367).bind fun bt370 => (pomaderef07_Hooks.l1 k x0 x1 bt370.1 (wrap64 (x9 + bt370.2)) (wrap64 (x10 + 1))))) else (none)) else (some (x8, x9, 0))
end
def pomaderef07_Hooks.f (k : Nat) (a0 : Int) (l1 : List Int) : Option (List Int × Int × Int) := if a0 < 1 then (pomaderef07_Hooks.j0 k a0 l1 true) else (pomaderef07_Hooks.j0 k a0 l1 (decide (a0 > 10)))
theorem pomaderef07_Hooks.mono_l : ∀ k, (∀ y0 y1 y2, LeO (pomaderef07_Hooks.j0 k y0 y1 y2) (pomaderef07_Hooks.j0 (k + 1) y0 y1 y2)) ∧ (∀ y0 y1 y2, LeO (pomaderef07_Hooks.l0 k y0 y1 y2) (pomaderef07_Hooks.l0 (k + 1) y0 y1 y2)) ∧ (∀ y0 y1 y2 y3 y4, LeO (pomaderef07_Hooks.l1 k y0 y1 y2 y3 y4) (pomaderef07_Hooks.l1 (k + 1) y0 y1 y2 y3 y4))
 | 0 => ⟨fun _ _ _ r h => by simp [pomaderef07_Hooks.j0] at h, fun _ _ _ r h => by simp [pomaderef07_Hooks.l0] at h, fun _ _ _ _ _ r h => by simp [pomaderef07_Hooks.l1] at h⟩
 | k + 1 => by
  obtain ⟨ih0, ih1, ih2⟩ := pomaderef07_Hooks.mono_l k
  refine ⟨?_, ?_, ?_⟩
  ·intro y0 y1 y2
   unfold pomaderef07_Hooks.j0
   repeat' first
   | (with_reducible exact ih0 _ _ _)
   | (with_reducible exact ih1 _ _ _)
   | (with_reducible exact ih2 _ _ _ _ _)
   | (with_reducible exact pomaderef07_Hook.mono _ _ _)
   | (with_reducible exact pomaderef07_Identity.mono _ _)
   | (with_reducible exact pomaderef07_product.mono _ _ _)
   | (with_reducible exact LeO.refl _)
   | (with_reducible exact LeO.none _)
   | (with_reducible refine LeO.ite ?_ ?_)
   | (with_reducible refine LeO.bind ?_ (fun _ => ?_))
   | exact ih0 _ _ _
   | exact ih1 _ _ _
   | exact ih2 _ _ _ _ _
   | exact pomaderef07_Hook.mono _ _ _
   | exact pomaderef07_Identity.mono _ _
   | exact pomaderef07_product.mono _ _ _
   | exact LeO.none _
   | refine LeO.ite ?_ ?_
   | refine LeO.bind ?_ (fun _ => ?_)
  ·intro y0 y1 y2
   unfold pomaderef07_Hooks.l0
   repeat' first
   | (with_reducible exact ih0 _ _ _)
   | (with_reducible exact ih1 _ _ _)
   | (with_reducible exact ih2 _ _ _ _ _)
   | (with_reducible exact pomaderef07_Hook.mono _ _ _)
   | (with_reducible exact pomaderef07_Identity.mono _ _)
   | (with_reducible exact pomaderef07_product.mono _ _ _)
   | (with_reducible exact LeO.refl _)
   | (with_reducible exact LeO.none _)
   | (with_reducible refine LeO.ite ?_ ?_)
   | (with_reducible refine LeO.bind ?_ (fun _ => ?_))
   | exact ih0 _ _ _
   | exact ih1 _ _ _
   | exact ih2 _ _ _ _ _
   | exact pomaderef07_Hook.mono _ _ _
   | exact pomaderef07_Identity.mono _ _
   | exact pomaderef07_product.mono _ _ _
   | exact LeO.none _
   | refine LeO.ite ?_ ?_
   | refine LeO.bind ?_ (fun _ => ?_)
  ·intro y0 y1 y2 y3 y4
   unfold pomaderef07_Hooks.l1
   repeat' first
   | (with_reducible exact ih0 _ _ _)
   | (with_reducible exact ih1 _ _ _)
   | (with_reducible exact ih2 _ _ _ _ _)
   | (with_reducible exact pomaderef07_Hook.mono _ _ _)
   | (with_reducible exact pomaderef07_Identity.mono _ _)
   | (with_reducible exact pomaderef07_product.mono _ _ _)
   | (with_reducible exact LeO.refl _)
   | (with_reducible exact LeO.none _)
   | (with_reducible refine LeO.ite ?_ ?_)
   | (with_reducible refine LeO.bind ?_ (fun _ => ?_))
   | exact ih0 _ _ _
   | exact ih1 _ _ _
   | exact ih2 _ _ _ _ _
   | exact pomaderef07_Hook.mono _ _ _
   | exact pomaderef07_Identity.mono _ _
   | exact pomaderef07_product.mono _ _ _
   | exact LeO.none _
   | refine LeO.ite ?_ ?_
   | refine LeO.bind ?_ (fun _ => ?_)
theorem pomaderef07_Hooks.mono : ∀ a0 a1 k, LeO (pomaderef07_Hooks.f k a0 a1) (pomaderef07_Hooks.f (k + 1) a0 a1) := by
 intro a0 a1 k
 obtain ⟨ih0, ih1, ih2⟩ := pomaderef07_Hooks.mono_l k
 unfold pomaderef07_Hooks.f
 repeat' first
   | (with_reducible exact ih0 _ _ _)
   | (with_reducible exact ih1 _ _ _)
   | (with_reducible exact ih2 _ _ _ _ _)
   | (with_reducible exact pomaderef07_Hook.mono _ _ _)
   | (with_reducible exact pomaderef07_Identity.mono _ _)
   | (with_reducible exact pomaderef07_product.mono _ _ _)
   | (with_reducible exact LeO.refl _)
   | (with_reducible exact LeO.none _)
   | (with_reducible refine LeO.ite ?_ ?_)
   | (with_reducible refine LeO.bind ?_ (fun _ => ?_))
   | exact ih0 _ _ _
   | exact ih1 _ _ _
   | exact ih2 _ _ _ _ _
   | exact pomaderef07_Hook.mono _ _ _
   | exact pomaderef07_Identity.mono _ _
   | exact pomaderef07_product.mono _ _ _
   | exact LeO.none _
   | refine LeO.ite ?_ ?_
   | refine LeO.bind ?_ (fun _ => ?_)
set_option maxHeartbeats 8000000 in
set_option maxRecDepth 100000 in
theorem pomaderef07_Hooks.calls (k : Nat) (a0 : Int) (A1 : Option Addr) (c1 : Nat) (l1 : List Int) (r1 : List Int) (r2 : Int) (r3 : Int) (w : World) (hr1 : Kd.C (Kd.int .i64) w A1 l1.length l1) (hc1 : l1.length ≤ c1) (h : pomaderef07_Hooks.f k a0 l1 = some (r1, r2, r3)) :
  Calls Try.prog 50 #[.int .i64 a0, .slice A1 l1.length c1] w fun e w' => ∃ v0_ : Value, e = .returned (.tuple #[v0_, .int .i64 r2, .int .i64 r3]) ∧ Kd.R (Kd.int .i64) 3 w' w.heap.size (fun _ => True) v0_ r1 ∧ Below w.heap.size w w' := by
 have HR1 := Aside0.mk hr1
 have HC1 := Aside0.mk hc1
 clear hr1 hc1
 have HB := Aside0.mk (Below.refl w.heap.size w)
 have H : (if a0 < 1 then (pomaderef07_Hooks.j0 k a0 l1 true) else (pomaderef07_Hooks.j0 k a0 l1 (decide (a0 > 10)))) = some (r1, r2, r3) := h
 clear h
 have HC3 := Aside0.mk H
 clear H
 go_enter Try.func50, Try.ntmps50
 go_upto_region 1 with (fail)
 go_cut [18] (fun v18 wc => ∃ (kq : Nat) (x18_2 : Bool), v18 = .bool x18_2 ∧ Aside0 (pomaderef07_Hooks.j0 kq a0 l1 x18_2 = some (r1, r2, r3)) ∧ Aside0 (kq ≤ k) ∧ Aside0 (Below w.heap.size w wc))
 case first =>
  have H := HC3.out
  clear HC3
  by_cases c4 : a0 < 1
  ·rw [if_pos c4] at H
   have c4b0 : decide (a0 < 1) = true := decide_eq_true c4
   clear c4
   (first | rw [c4b0] | (simp only [i64_w, i32_w]; rw [c4b0]) | skip)
   have H' := Aside0.mk H
   clear H
   go_wp2
   go_meet
   case rel => exact ⟨_, (true), (by first | rfl | (simp; done) | (simp [*]; done)), H', ⟨by first | omega | exact Nat.le_refl _⟩, ⟨by repeat (first | (with_reducible first | exact HB.out | apply below_alloc | apply pw_below_drewN | apply below_drew1) | exact HB.out)⟩⟩
  ·rw [if_neg c4] at H
   have c4b0 : decide (a0 < 1) = false := decide_eq_false c4
   clear c4
   (first | rw [c4b0] | (simp only [i64_w, i32_w]; rw [c4b0]) | skip)
   have H' := Aside0.mk H
   clear H
   go_wp2
   go_meet
   case rel => exact ⟨_, (decide (a0 > 10)), (by first | rfl | (simp; done) | (simp [*]; done)), H', ⟨by first | omega | exact Nat.le_refl _⟩, ⟨by repeat (first | (with_reducible first | exact HB.out | apply below_alloc | apply pw_below_drewN | apply below_drew1) | exact HB.out)⟩⟩
 case rest =>
  clear HC3
  try clear c1
  try clear p2
  try clear c4
  try clear c4b0
  obtain ⟨kq, x18_2, rfl, HA, HJ2, HB⟩ := hcut
  cases kq with
  | zero => exact absurd HA.out (by simp [pomaderef07_Hooks.j0])
  | succ kj2 =>
   have H := HA.out
   clear HA
   simp only [pomaderef07_Hooks.j0] at H
   by_cases c5 : x18_2 = true
   ·subst c5
    have H1 : (some (([] : List Int), 0, 2)) = some (r1, r2, r3) := by rw [if_pos rfl] at H; exact H
    clear H
    have H := H1
    clear H1
    simp only [Option.some.injEq, Prod.mk.injEq] at H
    obtain ⟨rfl, rfl, rfl⟩ := H
    go_wp2
    go_ret3
    exact ⟨_, by first | rfl | (simp [errW_none, errW_some] <;> rfl) | (simp [*, errW_none, errW_some] <;> rfl), by first | exact Kd.R_nil _ _ _ _ _ | exact Kd.N_nil _ _ _ _ _ | exact Kd.V_nil _ _ _ _ _ | exact Kd.Q_nil _ _ _ _ _ | exact Kd.S_nil _ _ _ _ _, by repeat (first | (with_reducible first | exact HB.out | apply below_alloc | apply pw_below_drewN | apply below_drew1) | exact HB.out)⟩
   ·replace c5 := Bool.eq_false_iff.mpr c5
    subst c5
    have H1 : (if (l1.length : Int) > 200 then (some (([] : List Int), 0, 3)) else (pomaderef07_Hooks.l0 kj2 a0 l1 0)) = some (r1, r2, r3) := by rw [if_neg (show ¬ (false = true) by decide)] at H; exact H
    clear H
    have H := H1
    clear H1
    by_cases c6 : (l1.length : Int) > 200
    ·rw [if_pos c6] at H
     have c6b0 : decide (200 < (l1.length : Int)) = true := decide_eq_true c6
     have c6b1 : decide (200 < l1.length) = true := decide_eq_true (by omega)
     clear c6
     simp only [Option.some.injEq, Prod.mk.injEq] at H
     obtain ⟨rfl, rfl, rfl⟩ := H
     go_wp2
     go_ret3
     exact ⟨_, by first | rfl | (simp [errW_none, errW_some] <;> rfl) | (simp [*, errW_none, errW_some] <;> rfl), by first | exact Kd.R_nil _ _ _ _ _ | exact Kd.N_nil _ _ _ _ _ | exact Kd.V_nil _ _ _ _ _ | exact Kd.Q_nil _ _ _ _ _ | exact Kd.S_nil _ _ _ _ _, by repeat (first | (with_reducible first | exact HB.out | apply below_alloc | apply pw_below_drewN | apply below_drew1) | exact HB.out)⟩
    ·rw [if_neg c6] at H
     have c6b0 : decide (200 < (l1.length : Int)) = false := decide_eq_false c6
     have c6b1 : decide (200 < l1.length) = false := decide_eq_false (by omega)
     clear c6
     have H' := Aside0.mk H
     clear H
     go_wp2
     go_loopg [7] kj2 (fun kq v7 w' => ∃ (x7_2 : Int), v7 = .int .i64 x7_2 ∧ Aside0 (pomaderef07_Hooks.l0 kq a0 l1 x7_2 = some (r1, r2, r3)) ∧ Aside0 (kq ≤ kj2) ∧ Aside0 (Below w.heap.size w w'))
     case atStart => exact ⟨(0), (by first | rfl | (simp; done) | (simp [*]; done)), H', ⟨Nat.le_refl _⟩, ⟨by repeat (first | (with_reducible first | exact HB.out | apply below_alloc | apply pw_below_drewN | apply below_drew1) | exact HB.out)⟩⟩
     case round =>
      clear H'
      try clear c1
      try clear p2
      try clear c4
      try clear c4b0
      try clear c5
      try clear c6
      try clear c6b0
      try clear c6b1
      try clear p2
      obtain ⟨x7_2, rfl, HA, HK2, HB⟩ := hrel
      cases gk with
      | zero => exact absurd HA.out (by simp [pomaderef07_Hooks.l0])
      | succ k2 =>
       have H := HA.out
       clear HA
       simp only [pomaderef07_Hooks.l0] at H
       by_cases c7 : x7_2 < (l1.length : Int)
       ·rw [if_pos c7] at H
        have c7b0 : decide (x7_2 < (l1.length : Int)) = true := decide_eq_true c7
        clear c7
        by_cases c8 : 0 ≤ x7_2
        ·rw [if_pos c8] at H
         have c8b0 : decide (0 ≤ x7_2) = true := decide_eq_true c8
         clear c8
         by_cases c9 : (rd l1 x7_2) < 0
         ·rw [if_pos c9] at H
          have c9b0 : decide ((rd l1 x7_2) < 0) = true := decide_eq_true c9
          clear c9
          simp only [Option.some.injEq, Prod.mk.injEq] at H
          obtain ⟨rfl, rfl, rfl⟩ := H
          have p361 : 0 ≤ (x7_2 : Int) := of_decide_eq_true (by first | (with_reducible assumption) | assumption)
          have q361 : x7_2 < (l1.length : Int) := of_decide_eq_true (by first | (with_reducible assumption) | assumption)
          obtain ⟨ad361, e361, hx361_0⟩ := Kd.at_int HR1.out x7_2 p361 q361
          cases e361
          replace hx361_0 := (HB.out.cell (World.block_lt_of_cell? w _ hx361_0)).trans hx361_0
          replace p361 := eq_true p361
          replace q361 := eq_true q361
          go_wp2
          go_ret3
          exact ⟨_, by first | rfl | (simp [errW_none, errW_some] <;> rfl) | (simp [*, errW_none, errW_some] <;> rfl), by first | exact Kd.R_nil _ _ _ _ _ | exact Kd.N_nil _ _ _ _ _ | exact Kd.V_nil _ _ _ _ _ | exact Kd.Q_nil _ _ _ _ _ | exact Kd.S_nil _ _ _ _ _, by repeat (first | (with_reducible first | exact HB.out | apply below_alloc | apply pw_below_drewN | apply below_drew1) | exact HB.out)⟩
         ·rw [if_neg c9] at H
          have c9b0 : decide ((rd l1 x7_2) < 0) = false := decide_eq_false c9
          clear c9
          by_cases c10 : (rd l1 x7_2) > (wrap64 (a0 - 2))
          ·rw [if_pos c10] at H
           have c10b0 : decide ((wrap64 (a0 - 2)) < (rd l1 x7_2)) = true := decide_eq_true c10
           clear c10
           simp only [Option.some.injEq, Prod.mk.injEq] at H
           obtain ⟨rfl, rfl, rfl⟩ := H
           have p361 : 0 ≤ (x7_2 : Int) := of_decide_eq_true (by first | (with_reducible assumption) | assumption)
           have q361 : x7_2 < (l1.length : Int) := of_decide_eq_true (by first | (with_reducible assumption) | assumption)
           obtain ⟨ad361, e361, hx361_0⟩ := Kd.at_int HR1.out x7_2 p361 q361
           cases e361
           replace hx361_0 := (HB.out.cell (World.block_lt_of_cell? w _ hx361_0)).trans hx361_0
           replace p361 := eq_true p361
           replace q361 := eq_true q361
           have p362 : 0 ≤ (x7_2 : Int) := of_decide_eq_true (by first | (with_reducible assumption) | assumption)
           have q362 : x7_2 < (l1.length : Int) := of_decide_eq_true (by first | (with_reducible assumption) | assumption)
           obtain ⟨ad362, e362, hx362_0⟩ := Kd.at_int HR1.out x7_2 p362 q362
           obtain rfl : ad361 = ad362 := (by injection e362)
           replace hx362_0 := (HB.out.cell (World.block_lt_of_cell? w _ hx362_0)).trans hx362_0
           replace p362 := eq_true p362
           replace q362 := eq_true q362
           go_wp2
           go_ret3
           exact ⟨_, by first | rfl | (simp [errW_none, errW_some] <;> rfl) | (simp [*, errW_none, errW_some] <;> rfl), by first | exact Kd.R_nil _ _ _ _ _ | exact Kd.N_nil _ _ _ _ _ | exact Kd.V_nil _ _ _ _ _ | exact Kd.Q_nil _ _ _ _ _ | exact Kd.S_nil _ _ _ _ _, by repeat (first | (with_reducible first | exact HB.out | apply below_alloc | apply pw_below_drewN | apply below_drew1) | exact HB.out)⟩
          ·rw [if_neg c10] at H
           have c10b0 : decide ((wrap64 (a0 - 2)) < (rd l1 x7_2)) = false := decide_eq_false c10
           clear c10
           have H' := Aside0.mk H
           clear H
           have p361 : 0 ≤ (x7_2 : Int) := of_decide_eq_true (by first | (with_reducible assumption) | assumption)
           have q361 : x7_2 < (l1.length : Int) := of_decide_eq_true (by first | (with_reducible assumption) | assumption)
           obtain ⟨ad361, e361, hx361_0⟩ := Kd.at_int HR1.out x7_2 p361 q361
           cases e361
           replace hx361_0 := (HB.out.cell (World.block_lt_of_cell? w _ hx361_0)).trans hx361_0
           replace p361 := eq_true p361
           replace q361 := eq_true q361
           have p362 : 0 ≤ (x7_2 : Int) := of_decide_eq_true (by first | (with_reducible assumption) | assumption)
           have q362 : x7_2 < (l1.length : Int) := of_decide_eq_true (by first | (with_reducible assumption) | assumption)
           obtain ⟨ad362, e362, hx362_0⟩ := Kd.at_int HR1.out x7_2 p362 q362
           obtain rfl : ad361 = ad362 := (by injection e362)
           replace hx362_0 := (HB.out.cell (World.block_lt_of_cell? w _ hx362_0)).trans hx362_0
           replace p362 := eq_true p362
           replace q362 := eq_true q362
           go_wp2
           go_roundg k2
           case measure => have := HJ2.out; have := HK2.out; omega
           case rel => exact ⟨(wrap64 (x7_2 + 1)), (by first | rfl | (simp; done) | (simp [*]; done)), H', ⟨by have := HJ2.out; have := HK2.out; omega⟩, ⟨by repeat (first | (with_reducible first | exact HB.out | apply below_alloc | apply pw_below_drewN | apply below_drew1) | exact HB.out)⟩⟩
        ·rw [if_neg c8] at H
         exact absurd H (by simp)
       ·rw [if_neg c7] at H
        have c7b0 : decide (x7_2 < (l1.length : Int)) = false := decide_eq_false c7
        clear c7
        replace H := Option.bind_eq_some_iff.mp H
        obtain ⟨t363, A110, H⟩ := H
        replace H : (pomaderef07_Hooks.l1 k2 a0 l1 t363 0 0) = some (r1, r2, r3) := H
        have A11 := Aside0.mk A110
        clear A110
        have H' := Aside0.mk H
        clear H
        go_wp2_with (first | ((with_reducible refine gate_callee (f := 28) rfl ?_); refine goesL_ (some 43) rfl rfl Try.func28 (by kernel_rfl) rfl #[.int .i64 a0] rfl (by (try simp only [List.map_toArray, List.map_cons, List.map_nil]); first | done | rfl | (simp only [List.length_drop, List.length_take]; rfl)) ?_; (with_reducible refine (pomaderef07_Identity.calls k2 a0 t363 _ A11.out).mono ?_); rintro e w12 ⟨v364, rfl, ho0, hb⟩; refine ⟨_, rfl, ?_⟩; have n0_ := Aside0.mk (Kd.R_lower ho0 (below_size (by repeat (first | (with_reducible first | exact HB.out | apply below_alloc | apply pw_below_drewN | apply below_drew1) | exact HB.out)))); have n1_ := Aside0.mk (below_step (by repeat (first | (with_reducible first | exact HB.out | apply below_alloc | apply pw_below_drewN | apply below_drew1) | exact HB.out)) hb); clear HB; have HO365 := n0_; have HB := n1_; clear n0_ n1_; (try clear hb); (try clear hb2); (try clear hk); (try clear hi); (try clear ho0)))
        go_loopg [8, 9, 10] k2 (fun kq v8 v9 v10 w' => ∃ (x8_3 : List Int) (x9_3 : Int) (x10_3 : Int), v9 = .int .i64 x9_3 ∧ v10 = .int .i64 x10_3 ∧ Aside0 (pomaderef07_Hooks.l1 kq a0 l1 x8_3 x9_3 x10_3 = some (r1, r2, r3)) ∧ Aside0 (kq ≤ k2) ∧ Aside0 (Kd.R (Kd.int .i64) 3 w' w.heap.size (fun _ => True) v8 x8_3) ∧ Aside0 (Below w.heap.size w w'))
        case atStart => exact ⟨(t363), (0), (0), (by first | rfl | (simp; done) | (simp [*]; done)), (by first | rfl | (simp; done) | (simp [*]; done)), H', ⟨Nat.le_refl _⟩, ⟨by (with_reducible repeat (first | apply Kd.R_alloc | apply Kd.R_drewN | apply Kd.R_drew)); exact HO365.out⟩, ⟨by repeat (first | (with_reducible first | exact HB.out | apply below_alloc | apply pw_below_drewN | apply below_drew1) | exact HB.out)⟩⟩
        case round =>
         clear H'
         try clear c1
         try clear c2
         try clear p2
         try clear p3
         try clear q3
         try clear hx3
         try clear c4
         try clear c4b0
         try clear c5
         try clear c6
         try clear c6b0
         try clear c6b1
         try clear p6
         try clear c7
         try clear c7b0
         try clear c8
         try clear c8b0
         try clear c9
         try clear c9b0
         try clear c10
         try clear c10b0
         try clear hx361_0
         try clear hx362_0
         try clear p2
         try clear p361
         try clear p362
         try clear q361
         try clear q362
         obtain ⟨x8_3, x9_3, x10_3, rfl, rfl, HA, HK3, HO_8, HB⟩ := hrel
         cases gk with
         | zero => exact absurd HA.out (by simp [pomaderef07_Hooks.l1])
         | succ k3 =>
          have H := HA.out
          clear HA
          simp only [pomaderef07_Hooks.l1] at H
          by_cases c13 : x10_3 < (l1.length : Int)
          ·rw [if_pos c13] at H
           have c13b0 : decide (x10_3 < (l1.length : Int)) = true := decide_eq_true c13
           clear c13
           by_cases c14 : 0 ≤ x10_3
           ·rw [if_pos c14] at H
            have c14b0 : decide (0 ≤ x10_3) = true := decide_eq_true c14
            clear c14
            replace H := Option.bind_eq_some_iff.mp H
            obtain ⟨t367, A150, H⟩ := H
            replace H : ((pomaderef07_product.f k3 x8_3 t367).bind fun bt370 => (pomaderef07_Hooks.l1 k3 a0 l1 bt370.1 (wrap64 (x9_3 + bt370.2)) (wrap64 (x10_3 + 1)))) = some (r1, r2, r3) := H
            have A15 := Aside0.mk A150
            clear A150
            replace H := Option.bind_eq_some_iff.mp H
            obtain ⟨⟨t370, t371⟩, A160, H⟩ := H
            replace H : (pomaderef07_Hooks.l1 k3 a0 l1 t370 (wrap64 (x9_3 + t371)) (wrap64 (x10_3 + 1))) = some (r1, r2, r3) := H
            have A16 := Aside0.mk A160
            clear A160
            have H' := Aside0.mk H
            clear H
            have p366 : 0 ≤ (x10_3 : Int) := of_decide_eq_true (by first | (with_reducible assumption) | assumption)
            have q366 : x10_3 < (l1.length : Int) := of_decide_eq_true (by first | (with_reducible assumption) | assumption)
            obtain ⟨ad366, e366, hx366_0⟩ := Kd.at_int HR1.out x10_3 p366 q366
            cases e366
            replace hx366_0 := (HB.out.cell (World.block_lt_of_cell? w _ hx366_0)).trans hx366_0
            replace p366 := eq_true p366
            replace q366 := eq_true q366
            go_wp2_with (first | ((with_reducible refine gate_callee (f := 52) rfl ?_); refine goesL_ (some 57) rfl rfl Try.func52 (by kernel_rfl) rfl #[.int .i64 a0, .int .i64 (rd l1 x10_3)] rfl (by (try simp only [List.map_toArray, List.map_cons, List.map_nil]); first | done | rfl | (simp only [List.length_drop, List.length_take]; rfl)) ?_; (with_reducible refine (pomaderef07_Hook.calls k3 a0 (rd l1 x10_3) t367 _ A15.out).mono ?_); rintro e w17 ⟨v368, rfl, ho0, hb⟩; refine ⟨_, rfl, ?_⟩; have n0_ := Aside0.mk (Kd.R_elder' (by (with_reducible repeat (first | apply Kd.R_alloc | apply Kd.R_drewN | apply Kd.R_drew)); exact HO_8.out) (Kd.R_base ho0) hb); have n1_ := Aside0.mk (Kd.R_lower (Kd.R_new' ho0 (Kd.R_lt (by (with_reducible repeat (first | apply Kd.R_alloc | apply Kd.R_drewN | apply Kd.R_drew)); exact HO_8.out))) (below_size (by repeat (first | (with_reducible first | exact HB.out | apply below_alloc | apply pw_below_drewN | apply below_drew1) | exact HB.out)))); have n2_ := Aside0.mk (below_step (by repeat (first | (with_reducible first | exact HB.out | apply below_alloc | apply pw_below_drewN | apply below_drew1) | exact HB.out)) hb); clear HO_8; clear HB; have HO_8 := n0_; have HO369 := n1_; have HB := n2_; clear n0_ n1_ n2_; (try clear hb); (try clear hb2); (try clear hk); (try clear hi); (try clear ho0); obtain ⟨Ao18, co18, eo18⟩ := Kd.R_slice HO_8.out; subst eo18; obtain ⟨Ao19, co19, eo19⟩ := Kd.R_slice HO369.out; subst eo19) | ((with_reducible refine gate_callee (f := 58) rfl ?_); refine goesL_ (some 58) rfl rfl Try.func58 (by kernel_rfl) rfl #[.slice Ao18 x8_3.length co18, .slice Ao19 t367.length co19] rfl (by (try simp only [List.map_toArray, List.map_cons, List.map_nil]); first | done | rfl | (simp only [List.length_drop, List.length_take]; rfl)) ?_; (with_reducible refine (pomaderef07_product.calls k3 _ _ x8_3 _ _ t367 t370 t371 _ ?side1 ?side2 ?side3 ?side4 A16.out).mono ?_); (case side1 => repeat (first | exact (Kd.R_reads' HO_8.out).2.2 | (with_reducible refine Kd.C_alloc ?_ _) | (with_reducible refine Kd.C_drewN ?_ _) | (with_reducible refine Kd.C_drew ?_))); (case side2 => exact (Kd.R_reads' HO_8.out).2.1); (case side3 => repeat (first | exact (Kd.R_reads' HO369.out).2.2 | (with_reducible refine Kd.C_alloc ?_ _) | (with_reducible refine Kd.C_drewN ?_ _) | (with_reducible refine Kd.C_drew ?_))); (case side4 => exact (Kd.R_reads' HO369.out).2.1); rintro e w20 ⟨v372, rfl, ho0, hb⟩; refine ⟨_, rfl, ?_⟩; have n0_ := Aside0.mk (Kd.R_elder' (by (with_reducible repeat (first | apply Kd.R_alloc | apply Kd.R_drewN | apply Kd.R_drew)); exact HO_8.out) (Kd.R_base ho0) hb); have n1_ := Aside0.mk (Kd.R_elder' (by (with_reducible repeat (first | apply Kd.R_alloc | apply Kd.R_drewN | apply Kd.R_drew)); exact HO369.out) (Kd.R_base ho0) hb); have n2_ := Aside0.mk (Kd.R_lower (Kd.R_new' (Kd.R_new' ho0 (Kd.R_lt (by (with_reducible repeat (first | apply Kd.R_alloc | apply Kd.R_drewN | apply Kd.R_drew)); exact HO_8.out))) (Kd.R_lt (by (with_reducible repeat (first | apply Kd.R_alloc | apply Kd.R_drewN | apply Kd.R_drew)); exact HO369.out))) (below_size (by repeat (first | (with_reducible first | exact HB.out | apply below_alloc | apply pw_below_drewN | apply below_drew1) | exact HB.out)))); have n3_ := Aside0.mk (below_step (by repeat (first | (with_reducible first | exact HB.out | apply below_alloc | apply pw_below_drewN | apply below_drew1) | exact HB.out)) hb); clear HO_8; clear HO369; clear HB; have HO_8 := n0_; have HO369 := n1_; have HO373 := n2_; have HB := n3_; clear n0_ n1_ n2_ n3_; (try clear hb); (try clear hb2); (try clear hk); (try clear hi); (try clear ho0)))
            go_roundg k3
            case measure => have := HJ2.out; have := HK2.out; have := HK3.out; omega
            case rel => exact ⟨(t370), (wrap64 (x9_3 + t371)), (wrap64 (x10_3 + 1)), (by first | rfl | (simp; done) | (simp [*]; done)), (by first | rfl | (simp; done) | (simp [*]; done)), H', ⟨by have := HJ2.out; have := HK2.out; have := HK3.out; omega⟩, ⟨by (with_reducible repeat (first | apply Kd.R_alloc | apply Kd.R_drewN | apply Kd.R_drew)); exact Kd.R_mono HO373.out (fun _ hk => trivial)⟩, ⟨by repeat (first | (with_reducible first | exact HB.out | apply below_alloc | apply pw_below_drewN | apply below_drew1) | exact HB.out)⟩⟩
           ·rw [if_neg c14] at H
            exact absurd H (by simp)
          ·rw [if_neg c13] at H
           have c13b0 : decide (x10_3 < (l1.length : Int)) = false := decide_eq_false c13
           clear c13
           simp only [Option.some.injEq, Prod.mk.injEq] at H
           obtain ⟨rfl, rfl, rfl⟩ := H
           go_wp2
           go_ret3
           exact ⟨_, by first | rfl | (simp [errW_none, errW_some] <;> rfl) | (simp [*, errW_none, errW_some] <;> rfl), by (with_reducible repeat (first | apply Kd.R_alloc | apply Kd.R_drewN | apply Kd.R_drew)); exact HO_8.out, by repeat (first | (with_reducible first | exact HB.out | apply below_alloc | apply pw_below_drewN | apply below_drew1) | exact HB.out)⟩
end Go.Proofs.Ytjfkompfkgjdaaa.PC
end
section
/- The hooks and their products, by the program and by the specification. -/
namespace Go.Proofs.Ytjfkompfkgjdaaa.L
open Go.RowKit Go.Proofs.Ytjfkompfkgjdaaa.PC Go.Proofs.YtjfkompfkgjdaaaW.PrintWords Go.Proofs.YtjfkompfkgjdaaaW.PrintLast Go.Proofs.Ytjfkompfkgjdaaa.G
/-! ### the hooks -/
def hkf (n i z : Nat) : Nat := if z = n + i + 1 then n + i else if z = n + i then n + i + 1 else if z = i + 1 then i else if z = i then i + 1 else idf n z
def hkL (n i : Nat) : List Int := ((((idL n).set i ((i + 1 : Nat) : Int)).set (i + 1) (i : Int)).set (n + i) ((n + i + 1 : Nat) : Int)).set (n + i + 1) ((n + i : Nat) : Int)
theorem hkf_mat {n i : Nat} (h : i + 1 < n) : Mat n (hkf n i) := by
  intro z hz
  unfold hkf idf
  refine ⟨?_, ?_, ?_⟩
  · repeat' split
    all_goals omega
  · repeat' split
    all_goals omega
  · repeat' split
    all_goals omega
theorem hkL_len (n i : Nat) : (hkL n i).length = 2 * n := by simp [hkL, idL_len]
theorem hkL_rd {n i z : Nat} (h : i + 1 < n) (hz : z < 2 * n) : rd (hkL n i) (z : Int) = (hkf n i z : Int) := by
  have l := idL_len n
  unfold hkL
  rw [rd_set _ _ _ _ (by simp; omega), rd_set _ _ _ _ (by simp; omega), rd_set _ _ _ _ (by simp; omega), rd_set _ _ _ _ (by omega), idL_rd hz]
  unfold hkf
  split
  · rfl
  · split
    · rfl
    · split
      · rfl
      · split <;> rfl
theorem hkL_lm {n i : Nat} (h : i + 1 < n) : LM n (hkL n i) ∧ ∀ z, z < 2 * n → fn (hkL n i) z = hkf n i z := lm_of_fun (hkL_len n i) (fun z hz => hkL_rd h hz) (hkf_mat h)
theorem hook_ev {n i : Nat} (hn : n ≤ 1000) (h : i + 1 < n) : Ev (fun k => plait_hook.f k (n : Int) (i : Int)) (hkL n i) := by
  have l := idL_len n
  refine Ev.congr (fun k => rfl) (Ev.bind (identity_ev hn) (Ev.congr (fun k => ?_) (Ev.now _)))
  have a1 : wrap64 ((i : Int) + 1) = ((i + 1 : Nat) : Int) := by rw [pw64 (by omega) (by omega)]; omega
  have a2 : wrap64 ((n : Int) + (i : Int)) = ((n + i : Nat) : Int) := by rw [pw64 (by omega) (by omega)]; omega
  have a3 : wrap64 (((n + i : Nat) : Int) + 1) = ((n + i + 1 : Nat) : Int) := by rw [pw64 (by omega) (by omega)]; omega
  rw [a1, a2, a3, if_pos (by omega), if_pos (by omega), if_pos (by omega), if_pos (by omega), if_pos (by omega), if_pos (by omega), if_pos (by omega), if_pos (by omega)]
  rfl
theorem refhook_ev {n i : Nat} (hn : n ≤ 1000) (h : i + 1 < n) : Ev (fun k => pomaderef07_Hook.f k (n : Int) (i : Int)) (hkL n i) := by
  have l := idL_len n
  refine Ev.congr (fun k => rfl) (Ev.bind (refidentity_ev hn) (Ev.congr (fun k => ?_) (Ev.now _)))
  have a1 : wrap64 ((i : Int) + 1) = ((i + 1 : Nat) : Int) := by rw [pw64 (by omega) (by omega)]; omega
  have a2 : wrap64 ((n : Int) + (i : Int)) = ((n + i : Nat) : Int) := by rw [pw64 (by omega) (by omega)]; omega
  have a3 : wrap64 (((n + i : Nat) : Int) + 1) = ((n + i + 1 : Nat) : Int) := by rw [pw64 (by omega) (by omega)]; omega
  rw [a1, a2, a3, if_pos (by omega), if_pos (by omega), if_pos (by omega), if_pos (by omega), if_pos (by omega), if_pos (by omega), if_pos (by omega), if_pos (by omega)]
  rfl
/-! ### their products -/
/-- the product of the hooks of a word from index j on -/
def hkW (n : Nat) (w : List Int) : Nat → Nat → List Int → Int → List Int × Int
  | 0, _, l, s => (l, s)
  | d + 1, j, l, s => hkW n w d (j + 1) (prodL n l (hkL n (rd w (j : Int)).toNat)) (wrap64 (s + (lops n (fn l) (fn (hkL n (rd w (j : Int)).toNat)) : Int)))
def okW (n : Nat) (w : List Int) : Prop := ∀ j : Nat, j < w.length → 0 ≤ rd w (j : Int) ∧ rd w (j : Int) ≤ (n : Int) - 2
theorem okW.at {n : Nat} {w : List Int} (h : okW n w) {j : Nat} (hj : j < w.length) : ∃ i : Nat, rd w (j : Int) = (i : Int) ∧ i + 1 < n := by
  have := h j hj
  exact ⟨(rd w (j : Int)).toNat, by omega, by omega⟩
theorem hooks_l0 {n : Nat} (hn : n ≤ 500) {w : List Int} (hl : w.length ≤ 1000) (hw : okW n w) (d : Nat) : ∀ (j : Nat) (l : List Int) (s : Int), j + d = w.length → LM n l →
    Ev (fun k => plait_Hooks.l0 k (n : Int) l s w (w.length : Int) (j : Int)) ((hkW n w d j l s).1, (hkW n w d j l s).2, 0) ∧ Ev (fun k => pomaderef07_Hooks.l1 k (n : Int) w l s (j : Int)) ((hkW n w d j l s).1, (hkW n w d j l s).2, 0) := by
  induction d with
  | zero =>
    intro j l s hj h
    refine ⟨Ev.step (f := fun _ => some (l, s, 0)) (fun k => ?_) (Ev.now _), Ev.step (f := fun _ => some (l, s, 0)) (fun k => ?_) (Ev.now _)⟩
    · simp only [plait_Hooks.l0]; rw [if_neg (by omega)]
    · simp only [pomaderef07_Hooks.l1]; rw [if_neg (by omega)]
  | succ d ih =>
    intro j l s hj h
    obtain ⟨i, e, hi⟩ := hw.at (j := j) (by omega)
    have e1 : wrap64 ((j : Int) + 1) = ((j + 1 : Nat) : Int) := by rw [pw64 (by omega) (by omega)]; rfl
    have hk := (hkL_lm hi).1
    obtain ⟨g1, g2⟩ := ih (j + 1) (prodL n l (hkL n i)) (wrap64 (s + (lops n (fn l) (fn (hkL n i)) : Int))) (by omega) (prodL_lm h hk)
    simp only [hkW]
    rw [e, Int.toNat_natCast]
    constructor
    · refine Ev.step (f := fun k => (plait_hook.f k (n : Int) (i : Int)).bind fun t344 => ((plait_diagram_product.f l t344).bind fun bt347 => (plait_Hooks.l0 k (n : Int) bt347.1 (wrap64 (s + bt347.2)) w (w.length : Int) ((j + 1 : Nat) : Int)))) (fun k => ?_) ?_
      · simp only [plait_Hooks.l0]
        rw [if_pos (by omega), if_pos (by omega), if_pos (by omega), e, e1]
      · refine Ev.bind (hook_ev (by omega) hi) ?_
        exact Ev.congr (fun k => by rw [product_ok hn h hk, Option.bind_some]) g1
    · refine Ev.step (f := fun k => (pomaderef07_Hook.f k (n : Int) (i : Int)).bind fun t367 => ((pomaderef07_product.f k l t367).bind fun bt370 => (pomaderef07_Hooks.l1 k (n : Int) w bt370.1 (wrap64 (s + bt370.2)) ((j + 1 : Nat) : Int)))) (fun k => ?_) ?_
      · simp only [pomaderef07_Hooks.l1]
        rw [if_pos (by omega), if_pos (by omega), e, e1]
      · refine Ev.bind (refhook_ev (by omega) hi) ?_
        exact Ev.bind (ref_product hn h hk) g2
end Go.Proofs.Ytjfkompfkgjdaaa.L
end
section
/- Closed curves: the trace of a product, and how many there can be: plain. -/
namespace Go.Proofs.Ytjfkompfkgjdaaa.G
/-! ### closed: every point with the one across -/
def ext (n : Nat) (d : Nat → Nat) (z : Nat) : Nat := if z < 2 * n then d z else z
theorem ext_lo {n : Nat} {d : Nat → Nat} {z : Nat} (h : z < 2 * n) : ext n d z = d z := by unfold ext; rw [if_pos h]
def acr (n : Nat) : List (Nat × Nat) := prs (fun i => i) (fun i => n + i) n
/-- how many closed curves -/
def cls (n : Nat) (d : Nat → Nat) : Nat := (glue (acr n) (ext n d)).2
theorem cntP_add (P : Nat → Prop) (m k : Nat) : cntP P (m + k) = cntP P m + cntP (fun i => P (m + i)) k := by
  induction k with
  | zero => rfl
  | succ k ih => rw [← Nat.add_assoc]; simp only [cntP]; rw [ih]; omega
/-- the trace: the curves of a product closed, with its loops, are those of both in a ring -/
theorem trace {n : Nat} {a b : Nat → Nat} (ha : Mat n a) (hb : Mat n b) : cls n (prod n a b) + lops n a b = cls n (prod n b a) + lops n b a := by
  have ring : ∀ {a b : Nat → Nat}, Mat n a → Mat n b → cls n (prod n a b) + lops n a b = (glue (mids n ++ prs (fun i => i) (fun i => 3 * n + i) n) (jn n a b)).2 := by
    intro a b ha hb
    have hp := prod_mat ha hb
    have hF : ∀ u v, u < 2 * n → v < 2 * n → emb n u = emb n v → u = v := fun u v _ _ e => by have := congrArg (une n) e; rwa [une_emb, une_emb] at this
    have h : Emb (2 * n) (emb n) (ext n (prod n a b)) (glue (mids n) (jn n a b)).1 := fun z hz => by
      rw [ext_lo hz]
      exact ⟨(hp z hz).1, (prod_emb ha hb hz).1.symm⟩
    have g := (glue_emb hF (acr n) h (fun p hp => by obtain ⟨i, hi, rfl⟩ := prs_mem hp; dsimp only; omega)).2
    have e : (acr n).map (fun p => (emb n p.1, emb n p.2)) = prs (fun i => i) (fun i => 3 * n + i) n := by
      unfold acr
      rw [prs_map]
      exact prs_congr n (fun i hi => by unfold emb; rw [if_pos hi, if_neg (by omega)]; omega)
    rw [e] at g
    rw [glue_app]
    show _ = _ + (glue (mids n) (jn n a b)).2
    rw [g]
    rfl
  rw [ring ha hb, ring hb ha]
  let S : Nat → Nat := fun z => if z < 2 * n then 2 * n + z else z - 2 * n
  have hS : ∀ u v, u < 4 * n → v < 4 * n → S u = S v → u = v := by
    intro u v hu hv e
    simp only [S] at e
    split at e <;> split at e <;> omega
  have eS : Emb (4 * n) S (jn n b a) (jn n a b) := fun z hz => ⟨jn_lt hb ha hz, by
    rcases @jn_cases n z with h | ⟨y, h, rfl⟩ | h
    · have := (hb z h).1
      simp only [S]; rw [jn_lo h, if_pos h, if_pos this, jn_hi h]
    · have := (ha y h).1
      simp only [S]; rw [jn_hi h, if_neg (by omega), if_neg (by omega), Nat.add_sub_cancel_left, Nat.add_sub_cancel_left, jn_lo h]
    · omega⟩
  have g := (glue_emb hS (mids n ++ prs (fun i => i) (fun i => 3 * n + i) n) eS (fun p hp => by
    rcases List.mem_append.1 hp with hp | hp
    · obtain ⟨i, hi, rfl⟩ := prs_mem hp; simp only [up, dn]; omega
    · obtain ⟨i, hi, rfl⟩ := prs_mem hp; dsimp only; omega)).2
  rw [← g, List.map_append]
  have e1 : (mids n).map (fun p => (S p.1, S p.2)) = prs (fun i => 3 * n + i) (fun i => i) n := by
    unfold mids
    rw [prs_map]
    exact prs_congr n (fun i hi => by simp only [S, up, dn]; rw [if_pos (by omega), if_neg (by omega)]; omega)
  have e2 : (prs (fun i => i) (fun i => 3 * n + i) n).map (fun p => (S p.1, S p.2)) = prs (dn n) (up n) n := by
    rw [prs_map]
    exact prs_congr n (fun i hi => by simp only [S, up, dn]; rw [if_pos (by omega), if_neg (by omega)]; omega)
  rw [e1, e2]
  have hi := jn_inv ha hb
  have okM := mids_ok ha hb
  have okO : OK (jn n a b) (prs (fun i => i) (fun i => 3 * n + i) n) := prs_ok n (fun i j _ _ => by omega) (fun i hi => ⟨(jn_alive ha hb).2 (by omega), (jn_alive ha hb).2 (by omega)⟩)
  have okMO : OK (jn n a b) (mids n ++ prs (fun i => i) (fun i => 3 * n + i) n) := okM.app okO (fun z h1 h2 => by
    have := mids_pts.1 h1
    obtain ⟨i, h, e⟩ := (pts_prs _ _ _ _).1 h2
    omega)
  obtain ⟨same, okOM⟩ := glue_perm (List.perm_append_comm (l₁ := mids n) (l₂ := prs (fun i => i) (fun i => 3 * n + i) n)) _ hi okMO
  rw [same, glue_app, glue_app]
  have f1 := prs_flip n _ hi okO
  rw [f1]
  have ok2 := glue_ok _ _ _ hi okOM
  have f2 := prs_flip n _ (glue_inv _ _ hi okO) ok2
  rw [f2]
  rfl
/-! ### halves -/
theorem cntP_mono {P Q : Nat → Prop} (N : Nat) (h : ∀ i, i < N → P i → Q i) : cntP P N ≤ cntP Q N := by
  induction N with
  | zero => exact Nat.le_refl _
  | succ N ih =>
    have := ih (fun i hi => h i (by omega))
    simp only [cntP]
    by_cases c : P N
    · rw [if_pos c, if_pos (h N (by omega) c)]; omega
    · rw [if_neg c]; omega
theorem cntP_eq {P Q : Nat → Prop} (N : Nat) (h : ∀ i, i < N → P i → Q i) (he : cntP P N = cntP Q N) : ∀ i, i < N → Q i → P i := by
  induction N with
  | zero => intro i hi; omega
  | succ N ih =>
    intro i hi hq
    have m := cntP_mono N (fun i hi => h i (by omega))
    simp only [cntP] at he
    by_cases c : P N
    · rw [if_pos c, if_pos (h N (by omega) c)] at he
      by_cases e : i = N
      · rw [e]; exact c
      · exact ih (fun i hi => h i (by omega)) (by omega) i (by omega) hq
    · by_cases d : Q N
      · rw [if_neg c, if_pos d] at he; omega
      · rw [if_neg c, if_neg d] at he
        by_cases e : i = N
        · subst e; exact absurd hq d
        · exact ih (fun i hi => h i (by omega)) (by omega) i (by omega) hq
open Classical in
theorem cntP_list (P : Nat → Prop) (N : Nat) : cntP P N = (List.range N).countP (fun i => decide (P i)) := by
  induction N with
  | zero => rfl
  | succ N ih =>
    rw [List.range_succ, List.countP_append, ← ih]
    simp only [cntP]
    by_cases c : P N <;> simp [c]
theorem cntP_perm {N : Nat} {A : Nat → Nat} (hA : PairN N A) (P : Nat → Prop) : cntP (fun i => P (A i)) N = cntP P N := by
  classical
  rw [cntP_list, cntP_list]
  have nd : ((List.range N).map A).Nodup := by
    unfold List.Nodup
    rw [List.pairwise_map]
    refine List.Pairwise.imp_of_mem (fun {a b} ha hb hne e => ?_) List.nodup_range
    have h1 := hA a (List.mem_range.1 ha)
    have h2 := hA b (List.mem_range.1 hb)
    exact hne (by rw [← h1.2.2, e, h2.2.2])
  have pm : ((List.range N).map A).Perm (List.range N) := (List.perm_ext_iff_of_nodup nd List.nodup_range).2 (fun x => by
    rw [List.mem_map, List.mem_range]
    constructor
    · rintro ⟨y, hy, rfl⟩; exact (hA y (List.mem_range.1 hy)).1
    · intro hx; exact ⟨A x, List.mem_range.2 (hA x hx).1, (hA x hx).2.2⟩)
  have := pm.countP_eq (fun i => decide (P i))
  rw [List.countP_map] at this
  rw [← this]
  congr 1
end Go.Proofs.Ytjfkompfkgjdaaa.G
end
section
/- Through strands, and diagrams turned: plain. -/
namespace Go.Proofs.Ytjfkompfkgjdaaa.G
/-! ### through strands -/
noncomputable def thr (n : Nat) (d : Nat → Nat) : Nat := cntP (fun i => n ≤ d i) n
theorem cntP_low {n : Nat} (Q : Nat → Prop) : cntP (fun z => z < n ∧ Q z) (2 * n) = cntP Q n := by
  rw [show 2 * n = n + n by omega, cntP_add, cntP_none (P := fun i => n + i < n ∧ Q (n + i)) n (fun i _ h => by omega), Nat.add_zero]
  exact cntP_congr n (fun i hi => ⟨fun h => h.2, fun h => ⟨hi, h⟩⟩)
theorem cntP_high {n : Nat} (Q : Nat → Prop) : cntP (fun z => n ≤ z ∧ Q z) (2 * n) = cntP (fun i => Q (n + i)) n := by
  rw [show 2 * n = n + n by omega, cntP_add, cntP_none (P := fun i => n ≤ i ∧ Q i) n (fun i _ h => by omega), Nat.zero_add]
  exact cntP_congr n (fun i hi => ⟨fun h => h.2, fun h => ⟨by omega, h⟩⟩)
theorem thr_low {n : Nat} {d : Nat → Nat} (hd : Mat n d) : thr n d = cntP (fun i => d (n + i) < n) n := by
  unfold thr
  rw [← cntP_low, ← cntP_high (fun z => d z < n), ← cntP_perm (N := 2 * n) hd (fun z => z < n ∧ n ≤ d z)]
  refine cntP_congr _ (fun z hz => ?_)
  have := (hd z hz).2.2
  rw [this]
  exact ⟨fun h => ⟨h.2, h.1⟩, fun h => ⟨h.2, h.1⟩⟩
theorem cntP_split (P Q : Nat → Prop) (N : Nat) : cntP P N = cntP (fun i => P i ∧ Q i) N + cntP (fun i => P i ∧ ¬ Q i) N := by
  induction N with
  | zero => rfl
  | succ N ih =>
    simp only [cntP]
    by_cases p : P N <;> by_cases q : Q N
    · rw [if_pos p, if_pos ⟨p, q⟩, if_neg (fun h => h.2 q)]; omega
    · rw [if_pos p, if_neg (fun h => q h.2), if_pos ⟨p, q⟩]; omega
    · rw [if_neg p, if_neg (fun h => p h.1), if_neg (fun h => p h.1)]; omega
    · rw [if_neg p, if_neg (fun h => p h.1), if_neg (fun h => p h.1)]; omega
/-! ### turned -/
theorem bo_lt2 {n i : Nat} (h : i < 2 * n) : bo n i < 2 * n := by unfold bo; split <;> omega
/-- left and right exchanged, along the border: the border is gone the other way, from another point on -/
def sg (n x : Nat) : Nat := if x < n then n - 1 - x else 3 * n - 1 - x
end Go.Proofs.Ytjfkompfkgjdaaa.G
end
section
/- What of a diagram stays in its products, and that brackets determine a diagram: plain. -/
namespace Go.Proofs.Ytjfkompfkgjdaaa.G
theorem upper_stay {n : Nat} {a b : Nat → Nat} (ha : Mat n a) (hb : Mat n b) {i : Nat} (hi : i < n) (c : a i < n) : prod n a b i = a i := by
  have e : jn n a b i = a i := jn_lo (by omega)
  have p := Path.out (σ := jn n a b) (l := mids n) i (by rw [e]; intro q; have := mids_pts.1 q; omega)
  rw [e] at p
  have := prod_path ha hb (p := i) (q := a i) (by omega) (by unfold emb; rw [if_pos hi]; exact p)
  unfold une at this
  rw [if_pos (by omega)] at this
  exact this.symm
/-- the brackets tell which point each closing one closes -/
theorem close_det {N : Nat} {D E : Nat → Nat} (hD : PairN N D) (hE : PairN N E) (nD : NCD N D) (nE : NCD N E) (h : ∀ x, x < N → (D x < x ↔ E x < x)) (d : Nat) :
    ∀ (x : Nat) (st : List Nat), x + d = N → Stay N D x st → Stay N E x st → ∀ y, x ≤ y → y < N → D y < y → D y = E y := by
  induction d with
  | zero => intro x st hx _ _ y h1 h2; omega
  | succ d ih =>
    intro x st hx s1 s2 y h1 h2 hy
    have hh := h x (by omega)
    rcases open_step hD nD (by omega : x < N) s1 with ⟨c, st', e, g⟩ | ⟨c, _, g⟩
    · rcases open_step hE nE (by omega : x < N) s2 with ⟨c', st2, e', g'⟩ | ⟨c', _, g'⟩
      · rw [e] at e'
        injection e' with q1 q2
        subst q2
        by_cases z : y = x
        · rw [z]; exact q1
        · exact ih (x + 1) st' (by omega) g g' y (by omega) h2 hy
      · omega
    · rcases open_step hE nE (by omega : x < N) s2 with ⟨c', st2, e', g'⟩ | ⟨c', _, g'⟩
      · omega
      · by_cases z : y = x
        · subst z; omega
        · exact ih (x + 1) _ (by omega) g g' y (by omega) h2 hy
theorem brackets_det {N : Nat} {D E : Nat → Nat} (hD : PairN N D) (hE : PairN N E) (nD : NCD N D) (nE : NCD N E) (h : ∀ x, x < N → (D x < x ↔ E x < x)) : ∀ x, x < N → D x = E x := by
  have s0 : ∀ D, Stay N D 0 [] := fun D => ⟨trivial, fun z => ⟨fun hz => (by cases hz), fun hz => (by omega)⟩⟩
  have cl := close_det hD hE nD nE h N 0 [] (by omega) (s0 D) (s0 E)
  intro x hx
  have d1 := hD x hx
  by_cases c : D x < x
  · exact cl x (by omega) hx c
  · have q := cl (D x) (by omega) d1.1 (by rw [d1.2.2]; omega)
    rw [d1.2.2] at q
    have := (hE (D x) d1.1).2.2
    rw [← q] at this
    exact this.symm
end Go.Proofs.Ytjfkompfkgjdaaa.G
end
section
namespace Go.Proofs.Ytjfkompfkgjdaaa.PC
open Go.RowKit Go.Proofs.YtjfkompfkgjdaaaW.PrintWords Go.Proofs.YtjfkompfkgjdaaaW.PrintLast Go.Proofs.YtjfkompfkgjdaaaW.PrintMore
attribute [local go_sem] max2_int min2_int max_two min_two max_three min_three max_four min_four   -- for this text's walks alone
set_option linter.unusedVariables false
set_option linter.unusedSimpArgs false
end Go.Proofs.Ytjfkompfkgjdaaa.PC
end
section
namespace Go.Proofs.Ytjfkompfkgjdaaa.PC
open Go.RowKit Go.Proofs.YtjfkompfkgjdaaaW.PrintWords Go.Proofs.YtjfkompfkgjdaaaW.PrintLast Go.Proofs.YtjfkompfkgjdaaaW.PrintMore
attribute [local go_sem] max2_int min2_int max_two min_two max_three min_three max_four min_four   -- for this text's walks alone
set_option linter.unusedVariables false
set_option linter.unusedSimpArgs false
end Go.Proofs.Ytjfkompfkgjdaaa.PC
end
section
namespace Go.Proofs.Ytjfkompfkgjdaaa.PC
open Go.RowKit Go.Proofs.YtjfkompfkgjdaaaW.PrintWords Go.Proofs.YtjfkompfkgjdaaaW.PrintLast Go.Proofs.YtjfkompfkgjdaaaW.PrintMore
attribute [local go_sem] max2_int min2_int max_two min_two max_three min_three max_four min_four   -- for this text's walks alone
set_option linter.unusedVariables false
set_option linter.unusedSimpArgs false
end Go.Proofs.Ytjfkompfkgjdaaa.PC
end
section
/- The powers of a diagram, by the program and by the specification. -/
namespace Go.Proofs.Ytjfkompfkgjdaaa.L
open Go.RowKit Go.Proofs.Ytjfkompfkgjdaaa.PC Go.Proofs.YtjfkompfkgjdaaaW.PrintWords Go.Proofs.YtjfkompfkgjdaaaW.PrintLast Go.Proofs.Ytjfkompfkgjdaaa.G
/-! ### the same numbers -/
theorem eq_l0 {a b : List Int} (ha : a.length ≤ 1000000) (hl : a.length = b.length) (d : Nat) : ∀ i : Nat, i + d = a.length → (∀ z : Nat, z < i → rd a (z : Int) = rd b (z : Int)) →
    Ev (fun k => plait_diagram_int_69.l0 k a b (a.length : Int) (i : Int)) (decide (a = b)) := by
  induction d with
  | zero =>
    intro i hi h
    have e : a = b := list_eq hl (fun z hz => h z (by omega))
    refine Ev.step (f := fun _ => some (decide (a = b))) (fun k => ?_) (Ev.now _)
    simp only [plait_diagram_int_69.l0]
    rw [if_neg (by omega), decide_eq_true e]
  | succ d ih =>
    intro i hi h
    by_cases c : rd a (i : Int) = rd b (i : Int)
    · refine Ev.step (fun k => ?_) (ih (i + 1) (by omega) (fun z hz => by
        by_cases q : z = i
        · subst q; exact c
        · exact h z (by omega)))
      simp only [plait_diagram_int_69.l0]
      rw [if_pos (by omega), if_pos (by omega), if_pos (by omega), if_pos (by omega), if_pos c, pw64 (by omega) (by omega)]
      rfl
    · have e : a ≠ b := fun e => c (by rw [e])
      refine Ev.step (f := fun _ => some (decide (a = b))) (fun k => ?_) (Ev.now _)
      simp only [plait_diagram_int_69.l0]
      rw [if_pos (by omega), if_pos (by omega), if_pos (by omega), if_pos (by omega), if_neg c, decide_eq_false e]
theorem eq_ev {a b : List Int} (ha : a.length ≤ 1000000) (hl : a.length = b.length) : Ev (fun k => plait_diagram_int_69.f k a b) (decide (a = b)) := by
  refine Ev.congr (fun k => ?_) (eq_l0 ha hl a.length 0 (by omega) (fun z hz => by omega))
  unfold plait_diagram_int_69.f
  rw [if_pos (by omega)]
  rfl
/-! ### powers -/
end Go.Proofs.Ytjfkompfkgjdaaa.L
end
section
/- A hook on top of a diagram, arches opened, and heights: plain. -/
namespace Go.Proofs.Ytjfkompfkgjdaaa.G
/-! ### a hook on top -/
def hk (n i z : Nat) : Nat := if z = n + i + 1 then n + i else if z = n + i then n + i + 1 else if z = i + 1 then i else if z = i then i + 1 else idf n z
theorem hk_mat {n i : Nat} (h : i + 1 < n) : Mat n (hk n i) := by
  intro z hz
  unfold hk idf
  refine ⟨?_, ?_, ?_⟩
  · repeat' split
    all_goals omega
  · repeat' split
    all_goals omega
  · repeat' split
    all_goals omega
theorem hk_lo {n i m : Nat} (h : i + 1 < n) (hm : m < n) (h1 : m ≠ i) (h2 : m ≠ i + 1) : hk n i m = n + m ∧ hk n i (n + m) = m := by
  unfold hk idf
  rw [if_neg (by omega), if_neg (by omega), if_neg (by omega), if_neg (by omega), if_pos hm, if_neg (by omega), if_neg (by omega), if_neg (by omega), if_neg (by omega), if_neg (by omega)]
  omega
theorem hk_at {n i : Nat} (h : i + 1 < n) : hk n i i = i + 1 ∧ hk n i (i + 1) = i ∧ hk n i (n + i) = n + i + 1 ∧ hk n i (n + i + 1) = n + i := by
  unfold hk
  refine ⟨?_, ?_, ?_, ?_⟩
  · rw [if_neg (by omega), if_neg (by omega), if_neg (by omega), if_pos rfl]
  · rw [if_neg (by omega), if_neg (by omega), if_pos rfl]
  · rw [if_neg (by omega), if_pos rfl]
  · rw [if_pos rfl]
/-- what a hook on top makes -/
def tl (i : Nat) (o : Nat → Nat) (z : Nat) : Nat := if z = i then i + 1 else if z = i + 1 then i else if o z = i then o (i + 1) else if o z = i + 1 then o i else o z
theorem tl_prod {n i : Nat} {o : Nat → Nat} (ho : Mat n o) (hi : i + 1 < n) {z : Nat} (hz : z < 2 * n) : prod n (hk n i) o z = tl i o z := by
  have hm := hk_mat hi
  have out : ∀ z, z < n ∨ 3 * n ≤ z → ¬ pts (mids n) z := fun z h e => by have := mids_pts.1 e; omega
  have inn : ∀ z, n ≤ z → z < 3 * n → pts (mids n) z := fun z h1 h2 => mids_pts.2 ⟨h1, h2⟩
  have hat := hk_at hi
  have A : ∀ y, y < 2 * n → o y ≠ i → o y ≠ i + 1 → ∃ q, Path (jn n (hk n i) o) (mids n) (2 * n + y) q ∧ une n q = o y := by
    intro y hy h1 h2
    have hy2 := (ho y hy).1
    have e : jn n (hk n i) o (2 * n + y) = 2 * n + o y := jn_hi hy
    by_cases c : o y < n
    · have e2 : jn n (hk n i) o (n + o y) = o y := by rw [jn_lo (by omega), (hk_lo hi c h1 h2).2]
      refine ⟨o y, .via _ _ (by rw [e]; exact inn _ (by omega) (by omega)) ?_, by unfold une; rw [if_pos c]⟩
      rw [e, (tau_up hm ho c).2]
      have := Path.out (σ := jn n (hk n i) o) (l := mids n) (n + o y) (by rw [e2]; exact out _ (.inl c))
      rwa [e2] at this
    · have := Path.out (σ := jn n (hk n i) o) (l := mids n) (2 * n + y) (by rw [e]; exact out _ (.inr (by omega)))
      rw [e] at this
      exact ⟨_, this, by unfold une; rw [if_neg (by omega)]; omega⟩
  have oi := ho i (by omega)
  have oj := ho (i + 1) (by omega)
  have B : ∀ y, y < 2 * n → y ≠ i → y ≠ i + 1 → ∃ q, Path (jn n (hk n i) o) (mids n) (2 * n + y) q ∧ une n q = tl i o y := by
    intro y hy h1 h2
    have oy := ho y hy
    have e : jn n (hk n i) o (2 * n + y) = 2 * n + o y := jn_hi hy
    unfold tl
    rw [if_neg h1, if_neg h2]
    by_cases c1 : o y = i
    · rw [if_pos c1]
      have ei : o i = y := by rw [← c1]; exact oy.2.2
      obtain ⟨q, p1, p2⟩ := A (i + 1) (by omega) (fun f => by rw [f] at oj; omega) oj.2.1
      refine ⟨q, .via _ _ (by rw [e]; exact inn _ (by omega) (by omega)) ?_, p2⟩
      rw [e, c1, (tau_up hm ho (by omega)).2]
      have e2 : jn n (hk n i) o (n + i) = n + i + 1 := by rw [jn_lo (by omega), hat.2.2.1]
      refine .via _ _ (by rw [e2]; exact inn _ (by omega) (by omega)) ?_
      rw [e2, show n + i + 1 = n + (i + 1) by omega, (tau_up hm ho (by omega)).1]
      exact p1
    · rw [if_neg c1]
      by_cases c2 : o y = i + 1
      · rw [if_pos c2]
        have ej : o (i + 1) = y := by rw [← c2]; exact oy.2.2
        obtain ⟨q, p1, p2⟩ := A i (by omega) oi.2.1 (fun f => by rw [f] at oi; omega)
        refine ⟨q, .via _ _ (by rw [e]; exact inn _ (by omega) (by omega)) ?_, p2⟩
        rw [e, c2, (tau_up hm ho (by omega)).2]
        have e2 : jn n (hk n i) o (n + (i + 1)) = n + i := by rw [jn_lo (by omega), show n + (i + 1) = n + i + 1 by omega, hat.2.2.2]
        refine .via _ _ (by rw [e2]; exact inn _ (by omega) (by omega)) ?_
        rw [e2, (tau_up hm ho (by omega)).1]
        exact p1
      · rw [if_neg c2]
        exact A y hy c1 c2
  by_cases c : z < n
  · by_cases c1 : z = i
    · subst c1
      rw [upper_stay hm ho c (by rw [hat.1]; omega), hat.1]
      unfold tl; rw [if_pos rfl]
    · by_cases c2 : z = i + 1
      · subst c2
        rw [upper_stay hm ho c (by rw [hat.2.1]; omega), hat.2.1]
        unfold tl; rw [if_neg (by omega), if_pos rfl]
      · obtain ⟨q, p1, p2⟩ := B z hz c1 c2
        have e : jn n (hk n i) o z = n + z := by rw [jn_lo hz, (hk_lo hi c c1 c2).1]
        have h3 : Path (jn n (hk n i) o) (mids n) (emb n z) q := by
          have : emb n z = z := by unfold emb; rw [if_pos c]
          rw [this]
          refine .via _ _ (by rw [e]; exact inn _ (by omega) (by omega)) ?_
          rw [e, (tau_up hm ho c).1]
          exact p1
        rw [← prod_path hm ho hz h3, p2]
  · obtain ⟨q, p1, p2⟩ := B z hz (by omega) (by omega)
    have h3 : Path (jn n (hk n i) o) (mids n) (emb n z) q := by
      have : emb n z = 2 * n + z := by unfold emb; rw [if_neg c]; omega
      rw [this]; exact p1
    rw [← prod_path hm ho hz h3, p2]
theorem tl_lops {n i : Nat} {o : Nat → Nat} (ho : Mat n o) (hi : i + 1 < n) (h : o i ≠ i + 1) : lops n (hk n i) o = 0 := by
  have hm := hk_mat hi
  have oi := ho i (by omega)
  have oj := ho (i + 1) (by omega)
  have oj2 : o (i + 1) ≠ i := fun f => by rw [f] at oj; omega
  rw [lops_fst hm ho]
  refine cntP_none n (fun m hmn hf => ?_)
  have hc := hf.1.2
  have step : ∀ m, m < n → m ≠ i → m ≠ i + 1 → ∀ x, Conn (jn n (hk n i) o) (tau (mids n)) x (n + m) → Conn (jn n (hk n i) o) (tau (mids n)) x m := by
    intro m hmn h1 h2 x hx
    have c := Conn.s _ hx
    rwa [jn_lo (by omega), (hk_lo hi hmn h1 h2).2] at c
  have go : ∀ m, m < n → o m ≠ i → o m ≠ i + 1 → ∃ z, Conn (jn n (hk n i) o) (tau (mids n)) (n + m) z ∧ ¬ pts (mids n) z := by
    intro m hmn h1 h2
    have om := ho m (by omega)
    have c := Conn.s _ (Conn.t (σ := jn n (hk n i) o) (τ := tau (mids n)) (x := n + m) _ .refl)
    rw [(tau_up hm ho hmn).1, jn_hi (by omega)] at c
    by_cases q : o m < n
    · have c2 := Conn.t _ c
      rw [(tau_up hm ho q).2] at c2
      exact ⟨o m, step _ q h1 h2 _ c2, fun e => by have := mids_pts.1 e; omega⟩
    · exact ⟨_, c, fun e => by have := mids_pts.1 e; omega⟩
  by_cases c1 : m = i
  · subst c1
    obtain ⟨z, z1, z2⟩ := go m hmn oi.2.1 h
    exact z2 (hc z z1)
  · by_cases c2 : m = i + 1
    · subst c2
      obtain ⟨z, z1, z2⟩ := go (i + 1) hmn oj2 oj.2.1
      exact z2 (hc z z1)
    · have := hc m (step m hmn c1 c2 _ .refl)
      have := mids_pts.1 this
      omega
/-! ### an arch opened -/
def pull (d : Nat → Nat) (i p q z : Nat) : Nat := if z = i then p else if z = i + 1 then q else if z = p then i else if z = q then i + 1 else d z
/-- right of the line between i and i + 1 -/
def Rt (n i z : Nat) : Prop := i + 1 ≤ bo n z ∧ bo n z + i + 2 ≤ 2 * n
theorem bo_val {n z : Nat} (h : z < n) : bo n z = z := by unfold bo; rw [if_pos h]
theorem bo_inj2 {n a b : Nat} (ha : a < 2 * n) (hb : b < 2 * n) (h : bo n a = bo n b) : a = b := by
  unfold bo at h
  by_cases c : a < n <;> by_cases c2 : b < n <;> simp only [c, c2, if_true, if_false] at h <;> omega
theorem opn_mat {n i p q : Nat} {d : Nat → Nat} (hd : Mat n d) (hi : i + 1 < n) (hp : p < 2 * n) (h1 : p ≠ i) (h2 : p ≠ i + 1) (hpq : d p = q) (hc : d i = i + 1) : Mat n (pull d i p q) := by
  have dp := hd p hp
  rw [hpq] at dp
  have di := hd i (by omega)
  rw [hc] at di
  have q1 : q ≠ i := fun e => by rw [e] at dp; omega
  have q2 : q ≠ i + 1 := fun e => by rw [e] at dp; omega
  intro z hz
  have dz := hd z hz
  have other : z ≠ i → z ≠ i + 1 → z ≠ p → z ≠ q → d z ≠ i ∧ d z ≠ i + 1 ∧ d z ≠ p ∧ d z ≠ q := fun a b c e =>
    ⟨fun f => by rw [f] at dz; omega, fun f => by rw [f] at dz; omega, fun f => by rw [f] at dz; omega, fun f => by rw [f] at dz; omega⟩
  unfold pull
  by_cases c1 : z = i
  · rw [if_pos c1, if_neg h1, if_neg h2, if_pos rfl]; omega
  · rw [if_neg c1]
    by_cases c2 : z = i + 1
    · rw [if_pos c2, if_neg q1, if_neg q2, if_neg (by omega), if_pos rfl]; omega
    · rw [if_neg c2]
      by_cases c3 : z = p
      · rw [if_pos c3, if_pos rfl]; omega
      · rw [if_neg c3]
        by_cases c4 : z = q
        · rw [if_pos c4, if_neg (by omega), if_pos rfl]; omega
        · rw [if_neg c4]
          have o := other c1 c2 c3 c4
          rw [if_neg o.1, if_neg o.2.1, if_neg o.2.2.1, if_neg o.2.2.2]
          exact dz
set_option maxHeartbeats 1000000 in
theorem opn_nc {n i p q : Nat} {d : Nat → Nat} (hd : Mat n d) (hn : NCf n d) (hi : i + 1 < n) (hc : d i = i + 1) (hp : p < 2 * n) (hpq : d p = q) (h1 : p ≠ i) (hL : ¬ Rt n i p) (hR : Rt n i q)
    (hmin : ∀ z, z < 2 * n → i + 1 < bo n z → bo n z < bo n q → Rt n i (d z)) : NCf n (pull d i p q) := by
  have dp := hd p hp
  rw [hpq] at dp
  have di := hd i (by omega)
  rw [hc] at di
  have bi : bo n i = i := bo_val (by omega)
  have bj : bo n (i + 1) = i + 1 := bo_val (by omega)
  have p2 : p ≠ i + 1 := fun e => hL (by rw [e]; unfold Rt; rw [bj]; omega)
  have q1 : q ≠ i := fun e => by rw [e] at dp; omega
  have q2 : q ≠ i + 1 := fun e => by rw [e] at dp; omega
  unfold Rt at hL hR
  have bpi : bo n p ≠ i := fun e => h1 (bo_inj2 hp (by omega) (by rw [e, bi]))
  have bpj : bo n p ≠ i + 1 := fun e => p2 (bo_inj2 hp (by omega) (by rw [e, bj]))
  have bqj : bo n q ≠ i + 1 := fun e => q2 (bo_inj2 dp.1 (by omega) (by rw [e, bj]))
  have bp := bo_lt2 hp
  have bq := bo_lt2 dp.1
  have o1 : pull d i p q i = p := if_pos rfl
  have o2 : pull d i p q (i + 1) = q := by unfold pull; rw [if_neg (by omega), if_pos rfl]
  have o3 : pull d i p q p = i := by unfold pull; rw [if_neg h1, if_neg p2, if_pos rfl]
  have o4 : pull d i p q q = i + 1 := by unfold pull; rw [if_neg q1, if_neg q2, if_neg (by omega), if_pos rfl]
  have o5 : ∀ z, z ≠ i → z ≠ i + 1 → z ≠ p → z ≠ q → pull d i p q z = d z := fun z a b c e => by
    unfold pull; rw [if_neg a, if_neg b, if_neg c, if_neg e]
  have cases4 : ∀ z, z = i ∨ z = i + 1 ∨ z = p ∨ z = q ∨ (z ≠ i ∧ z ≠ i + 1 ∧ z ≠ p ∧ z ≠ q) := fun z => by omega
  -- what an arc that stays tells
  have key : ∀ z, z < 2 * n → z ≠ i → z ≠ i + 1 → z ≠ p → z ≠ q →
      ¬ (i + 1 < bo n z ∧ bo n z < bo n q ∧ (bo n (d z) < i + 1 ∨ bo n q < bo n (d z))) ∧
      ¬ (bo n p < bo n z ∧ bo n z < i ∧ (bo n (d z) < bo n p ∨ i < bo n (d z))) ∧
      ¬ (i < bo n z ∧ bo n z < bo n p ∧ (bo n (d z) < i ∨ bo n p < bo n (d z))) ∧ bo n z ≠ i ∧ bo n z ≠ i + 1 ∧ bo n z ≠ bo n p ∧ bo n z ≠ bo n q ∧ bo n z ≠ bo n (d z) := by
    intro z hz a b c e
    have dz := hd z hz
    have z1 : bo n z ≠ i := fun f => a (bo_inj2 hz (by omega) (by rw [f, bi]))
    have z2 : bo n z ≠ i + 1 := fun f => b (bo_inj2 hz (by omega) (by rw [f, bj]))
    have z3 : bo n z ≠ bo n p := fun f => c (bo_inj2 hz hp f)
    have z4 : bo n z ≠ bo n q := fun f => e (bo_inj2 hz dp.1 f)
    have z5 : bo n z ≠ bo n (d z) := fun f => dz.2.1 (bo_inj2 hz dz.1 f).symm
    have y1 : bo n (d z) ≠ i := fun f => by
      have f := bo_inj2 dz.1 (by omega : i < 2 * n) (by rw [f, bi])
      rw [f] at dz; omega
    have y2 : bo n (d z) ≠ i + 1 := fun f => by
      have f := bo_inj2 dz.1 (by omega : i + 1 < 2 * n) (by rw [f, bj])
      rw [f] at dz; omega
    have y3 : bo n (d z) ≠ bo n p := fun f => by
      have f := bo_inj2 dz.1 hp f
      rw [f] at dz; omega
    have y4 : bo n (d z) ≠ bo n q := fun f => by
      have f := bo_inj2 dz.1 dp.1 f
      rw [f] at dz; omega
    have m1 := hmin z hz
    have m2 := hmin (d z) dz.1
    have bz := bo_lt2 hz
    have bdz := bo_lt2 dz.1
    rw [dz.2.2] at m2
    unfold Rt at m1 m2
    have n2 := hn p z hp hz
    rw [hpq] at n2
    have n3 := hn z q hz dp.1
    rw [dp.2.2] at n3
    have n4 := hn q z dp.1 hz
    rw [dp.2.2] at n4
    have n5 := hn (d z) p dz.1 hp
    rw [dz.2.2, hpq] at n5
    have n7 := hn (d z) q dz.1 dp.1
    rw [dz.2.2, dp.2.2] at n7
    clear hmin hn
    generalize bo n z = Z at *
    generalize bo n (d z) = Y at *
    generalize bo n p = P at *
    generalize bo n q = Q at *
    refine ⟨?_, ?_, ?_, z1, z2, z3, z4, z5⟩
    · clear n4 n5 n7 m2; omega
    · clear n3 n4 n7 m1; omega
    · clear n2 n3 n5 m2; omega
  intro u v hu hv hcr
  have du := hd u hu
  have dv := hd v hv
  have su : u ≠ i → u ≠ i + 1 → u ≠ p → u ≠ q → d u ≠ i ∧ d u ≠ i + 1 ∧ d u ≠ p ∧ d u ≠ q := fun a b c e =>
    ⟨fun f => by rw [f] at du; omega, fun f => by rw [f] at du; omega, fun f => by rw [f] at du; omega, fun f => by rw [f] at du; omega⟩
  have sv : v ≠ i → v ≠ i + 1 → v ≠ p → v ≠ q → d v ≠ i ∧ d v ≠ i + 1 ∧ d v ≠ p ∧ d v ≠ q := fun a b c e =>
    ⟨fun f => by rw [f] at dv; omega, fun f => by rw [f] at dv; omega, fun f => by rw [f] at dv; omega, fun f => by rw [f] at dv; omega⟩
  have ku := key u hu
  have kv := key v hv
  have kdu := key (d u) du.1
  have kdv := key (d v) dv.1
  rw [du.2.2] at kdu
  rw [dv.2.2] at kdv
  have nn := hn u v hu hv
  clear key hmin hn hd
  rcases cases4 u with a | a | a | a | ⟨a1, a2, a3, a4⟩
  · rcases cases4 v with b | b | b | b | ⟨b1, b2, b3, b4⟩
    · rw [a, b] at hcr; exact absurd hcr.1 (Nat.lt_irrefl _)
    · rw [a, b, o1, o2, bi, bj] at hcr; clear ku kv kdu kdv su sv nn o5 cases4 dp di du dv; omega
    · rw [a, b, o1, o3, bi] at hcr; exact absurd hcr.2.1 (Nat.lt_irrefl _)
    · rw [a, b, o1, o4, bi, bj] at hcr; clear ku kv kdu kdv su sv nn o5 cases4 dp di du dv; omega
    · rw [a, o1, o5 v b1 b2 b3 b4, bi] at hcr
      exact (kv b1 b2 b3 b4).2.2.1 ⟨hcr.1, hcr.2.1, .inr hcr.2.2⟩
  · rcases cases4 v with b | b | b | b | ⟨b1, b2, b3, b4⟩
    · rw [a, b, o1, o2, bi, bj] at hcr; clear ku kv kdu kdv su sv nn o5 cases4 dp di du dv; omega
    · rw [a, b] at hcr; exact absurd hcr.1 (Nat.lt_irrefl _)
    · rw [a, b, o2, o3, bi, bj] at hcr; clear ku kv kdu kdv su sv nn o5 cases4 dp di du dv; omega
    · rw [a, b, o2, o4, bj] at hcr; exact absurd hcr.2.1 (Nat.lt_irrefl _)
    · rw [a, o2, o5 v b1 b2 b3 b4, bj] at hcr
      exact (kv b1 b2 b3 b4).1 ⟨hcr.1, hcr.2.1, .inr hcr.2.2⟩
  · rcases cases4 v with b | b | b | b | ⟨b1, b2, b3, b4⟩
    · rw [a, b, o3, o1, bi] at hcr; exact absurd hcr.2.1 (Nat.lt_irrefl _)
    · rw [a, b, o3, o2, bi, bj] at hcr; clear ku kv kdu kdv su sv nn o5 cases4 dp di du dv; omega
    · rw [a, b] at hcr; exact absurd hcr.1 (Nat.lt_irrefl _)
    · rw [a, b, o3, o4, bi, bj] at hcr; clear ku kv kdu kdv su sv nn o5 cases4 dp di du dv; omega
    · rw [a, o3, o5 v b1 b2 b3 b4, bi] at hcr
      exact (kv b1 b2 b3 b4).2.1 ⟨hcr.1, hcr.2.1, .inr hcr.2.2⟩
  · rcases cases4 v with b | b | b | b | ⟨b1, b2, b3, b4⟩
    · rw [a, b, o4, o1, bi, bj] at hcr; clear ku kv kdu kdv su sv nn o5 cases4 dp di du dv; omega
    · rw [a, b, o4, o2, bj] at hcr; exact absurd hcr.2.1 (Nat.lt_irrefl _)
    · rw [a, b, o4, o3, bi, bj] at hcr; clear ku kv kdu kdv su sv nn o5 cases4 dp di du dv; omega
    · rw [a, b] at hcr; exact absurd hcr.1 (Nat.lt_irrefl _)
    · rw [a, o4, o5 v b1 b2 b3 b4, bj] at hcr
      clear ku kv kdu kdv su sv nn o5 cases4 dp di du dv; omega
  · rw [o5 u a1 a2 a3 a4] at hcr
    have ss := su a1 a2 a3 a4
    have k3 := kdu ss.1 ss.2.1 ss.2.2.1 ss.2.2.2
    rcases cases4 v with b | b | b | b | ⟨b1, b2, b3, b4⟩
    · rw [b, o1, bi] at hcr
      exact k3.2.2.1 ⟨hcr.2.1, hcr.2.2, .inl hcr.1⟩
    · rw [b, o2, bj] at hcr
      exact k3.1 ⟨hcr.2.1, hcr.2.2, .inl hcr.1⟩
    · rw [b, o3, bi] at hcr
      exact k3.2.1 ⟨hcr.2.1, hcr.2.2, .inl hcr.1⟩
    · rw [b, o4, bj] at hcr
      clear ku kv kdu kdv su sv nn o5 cases4 k3 dp di du dv ss; omega
    · rw [o5 v b1 b2 b3 b4] at hcr
      exact nn hcr
theorem bo_bo2 {n z : Nat} (h : z < 2 * n) : bo n (bo n z) = z := by
  unfold bo
  by_cases c : z < n
  · rw [if_pos c, if_pos c]
  · rw [if_neg c, if_neg (by omega)]; omega
theorem open_min {n i p q : Nat} {o : Nat → Nat} (ho : Mat n o) (hn : NCf n o) (hi : i + 1 < n) (hp : o i = p) (hq : o (i + 1) = q) (hL : ¬ Rt n i p) (hR : Rt n i q) :
    ∀ z, z < 2 * n → i + 1 < bo n z → bo n z < bo n q → Rt n i (tl i o z) := by
  intro z hz h1 h2
  have bi : bo n i = i := bo_val (by omega)
  have bj : bo n (i + 1) = i + 1 := bo_val (by omega)
  have oz := ho z hz
  have oi := ho i (by omega)
  have oj := ho (i + 1) (by omega)
  have zi : z ≠ i := fun e => by rw [e, bi] at h1; omega
  have zj : z ≠ i + 1 := fun e => by rw [e, bj] at h1; omega
  have zp : z ≠ p := fun e => hL (by rw [← e]; unfold Rt at hR ⊢; omega)
  have zq : z ≠ q := fun e => by rw [e] at h2; omega
  have e1 : o z ≠ i := fun e => by rw [← e, oz.2.2] at hp; exact zp hp
  have e2 : o z ≠ i + 1 := fun e => by rw [← e, oz.2.2] at hq; exact zq hq
  have et : tl i o z = o z := by unfold tl; rw [if_neg zi, if_neg zj, if_neg e1, if_neg e2]
  rw [et]
  have n1 := hn (i + 1) z (by omega) hz
  have n2 := hn (o z) (i + 1) oz.1 (by omega)
  rw [hq, bj] at n1
  rw [oz.2.2, hq, bj] at n2
  unfold Rt at hR ⊢
  omega
theorem open_uniq {n i p q p' q' : Nat} {d : Nat → Nat} (hd : Mat n d) (hp : p < 2 * n) (hpq : d p = q) (hL : ¬ Rt n i p) (hR : Rt n i q) (hj : bo n q ≠ i + 1)
    (hmin : ∀ z, z < 2 * n → i + 1 < bo n z → bo n z < bo n q → Rt n i (d z)) (hp' : p' < 2 * n) (hpq' : d p' = q') (hL' : ¬ Rt n i p') (hR' : Rt n i q') (hj' : bo n q' ≠ i + 1)
    (hmin' : ∀ z, z < 2 * n → i + 1 < bo n z → bo n z < bo n q' → Rt n i (d z)) : p = p' ∧ q = q' := by
  have dp := hd p hp
  have dp' := hd p' hp'
  rw [hpq] at dp
  rw [hpq'] at dp'
  have e : q = q' := by
    refine bo_inj2 dp.1 dp'.1 ?_
    by_cases c : bo n q < bo n q'
    · have := hmin' q dp.1 (by unfold Rt at hR; omega) c
      rw [dp.2.2] at this; exact absurd this hL
    · by_cases c2 : bo n q' < bo n q
      · have := hmin q' dp'.1 (by unfold Rt at hR'; omega) c2
        rw [dp'.2.2] at this; exact absurd this hL'
      · omega
  subst e
  exact ⟨dp.2.2.symm.trans dp'.2.2, rfl⟩
theorem tl_opn {n i p q : Nat} {d : Nat → Nat} (hd : Mat n d) (hi : i + 1 < n) (hc : d i = i + 1) (hp : p < 2 * n) (h1 : p ≠ i) (h2 : p ≠ i + 1) (hpq : d p = q) {z : Nat} (hz : z < 2 * n) : tl i (pull d i p q) z = d z := by
  have dp := hd p hp
  rw [hpq] at dp
  have di := hd i (by omega)
  rw [hc] at di
  have q1 : q ≠ i := fun e => by rw [e] at dp; omega
  have q2 : q ≠ i + 1 := fun e => by rw [e] at dp; omega
  have dz := hd z hz
  have vi : pull d i p q i = p := if_pos rfl
  have vj : pull d i p q (i + 1) = q := by unfold pull; rw [if_neg (by omega), if_pos rfl]
  unfold tl
  rw [vi, vj]
  by_cases c1 : z = i
  · rw [if_pos c1, c1, hc]
  · by_cases c2 : z = i + 1
    · rw [if_neg c1, if_pos c2, c2, di.2.2]
    · rw [if_neg c1, if_neg c2]
      by_cases c3 : z = p
      · have : pull d i p q z = i := by unfold pull; rw [if_neg c1, if_neg c2, if_pos c3]
        rw [this, if_pos rfl, c3, hpq]
      · by_cases c4 : z = q
        · have : pull d i p q z = i + 1 := by unfold pull; rw [if_neg c1, if_neg c2, if_neg c3, if_pos c4]
          rw [this, if_neg (by omega), if_pos rfl, c4, dp.2.2]
        · have : pull d i p q z = d z := by unfold pull; rw [if_neg c1, if_neg c2, if_neg c3, if_neg c4]
          rw [this, if_neg (fun f => by rw [f] at dz; omega), if_neg (fun f => by rw [f] at dz; omega)]
theorem opn_tl {n i : Nat} {o : Nat → Nat} (ho : Mat n o) (hi : i + 1 < n) (hne : o i ≠ i + 1) {z : Nat} (hz : z < 2 * n) : pull (tl i o) i (o i) (o (i + 1)) z = o z := by
  have oi := ho i (by omega)
  have oj := ho (i + 1) (by omega)
  have oz := ho z hz
  unfold pull
  by_cases c1 : z = i
  · rw [if_pos c1, c1]
  · by_cases c2 : z = i + 1
    · rw [if_neg c1, if_pos c2, c2]
    · rw [if_neg c1, if_neg c2]
      by_cases c3 : z = o i
      · rw [if_pos c3, c3, oi.2.2]
      · by_cases c4 : z = o (i + 1)
        · rw [if_neg c3, if_pos c4, c4, oj.2.2]
        · rw [if_neg c3, if_neg c4]
          unfold tl
          rw [if_neg c1, if_neg c2, if_neg (fun f => c3 (by rw [← f, oz.2.2])), if_neg (fun f => c4 (by rw [← f, oz.2.2]))]
/-! ### there is one -/
theorem even_closed {N : Nat} {D : Nat → Nat} (hD : PairN N D) (S : Nat → Prop) (hS : ∀ x, x < N → S x → S (D x)) : ∃ k, cntP S N = 2 * k := by
  have h3 := cntP_split S (fun z => z < D z) N
  have h4 : cntP (fun i => S i ∧ ¬ i < D i) N = cntP (fun i => S i ∧ i < D i) N := by
    rw [← cntP_perm (N := N) hD (fun i => S i ∧ i < D i)]
    refine cntP_congr _ (fun z hz => ?_)
    have dz := hD z hz
    rw [dz.2.2]
    constructor
    · intro h; exact ⟨hS z hz h.1, by omega⟩
    · intro h; exact ⟨by have := hS (D z) dz.1 h.1; rwa [dz.2.2] at this, by omega⟩
  exact ⟨cntP (fun i => S i ∧ i < D i) N, by omega⟩
theorem cntP_int (a b N : Nat) : cntP (fun x => a < x ∧ x ≤ b) N = (if N ≤ b + 1 then N else b + 1) - (a + 1) := by
  induction N with
  | zero => simp [cntP]
  | succ N ih =>
    simp only [cntP]
    rw [ih]
    by_cases c : a < N ∧ N ≤ b
    · rw [if_pos c, if_pos (by omega), if_pos (by omega)]; omega
    · rw [if_neg c]
      by_cases e : N ≤ b + 1 <;> by_cases f : N + 1 ≤ b + 1 <;> simp only [e, f, if_true, if_false] <;> omega
theorem least_nat (P : Nat → Prop) : ∀ (N : Nat), P N → ∃ m, m ≤ N ∧ P m ∧ ∀ k, k < m → ¬ P k := by
  intro N
  induction N using Nat.strongRecOn with
  | ind N ih =>
    intro h
    by_cases c : ∃ k, k < N ∧ P k
    · obtain ⟨k, hk, p⟩ := c
      obtain ⟨m, h1, h2, h3⟩ := ih k hk p
      exact ⟨m, by omega, h2, h3⟩
    · exact ⟨N, Nat.le_refl _, h, fun k hk p => c ⟨k, hk, p⟩⟩
theorem bo_pair {n : Nat} {d : Nat → Nat} (hd : Mat n d) : PairN (2 * n) (fun x => bo n (d (bo n x))) := by
  intro x hx
  have b := bo_lt2 hx
  have h := hd _ b
  refine ⟨bo_lt2 h.1, fun e => h.2.1 ?_, ?_⟩
  · have := congrArg (bo n) e
    simp only at this
    rwa [bo_bo2 h.1] at this
  · simp only
    rw [bo_bo2 h.1, h.2.2, bo_bo2 hx]
theorem open_ex {n i : Nat} {d : Nat → Nat} (hd : Mat n d) (hi : i + 1 < n) (hc : d i = i + 1) : ∃ p q, p < 2 * n ∧ d p = q ∧ p ≠ i ∧ p ≠ i + 1 ∧ ¬ Rt n i p ∧ Rt n i q ∧ bo n q ≠ i + 1 ∧ ∀ z, z < 2 * n → i + 1 < bo n z → bo n z < bo n q → Rt n i (d z) := by
  have di := hd i (by omega)
  rw [hc] at di
  have bi : bo n i = i := bo_val (by omega)
  have bj : bo n (i + 1) = i + 1 := bo_val (by omega)
  have ex : ∃ x, (i + 1 < x ∧ x ≤ 2 * n - 2 - i) ∧ ¬ Rt n i (d (bo n x)) := by
    refine Classical.byContradiction fun no => ?_
    obtain ⟨k, hk⟩ := even_closed (bo_pair hd) (fun x => i + 1 < x ∧ x ≤ 2 * n - 2 - i) (fun x hx hs => by
      have r : Rt n i (d (bo n x)) := Classical.byContradiction fun c => no ⟨x, hs, c⟩
      have b := bo_lt2 hx
      have dx := hd _ b
      have ne : bo n (d (bo n x)) ≠ i + 1 := fun e => by
        have e := bo_inj2 dx.1 (by omega : i + 1 < 2 * n) (by rw [e, bj])
        have := dx.2.2
        rw [e, di.2.2] at this
        have := congrArg (bo n) this
        rw [bi, bo_bo2 hx] at this
        omega
      unfold Rt at r
      exact ⟨by omega, by omega⟩)
    rw [cntP_int, if_neg (by omega)] at hk
    omega
  obtain ⟨x0, hx0⟩ := ex
  obtain ⟨x, _, ⟨h1, h2⟩, h3⟩ := least_nat (fun x => (i + 1 < x ∧ x ≤ 2 * n - 2 - i) ∧ ¬ Rt n i (d (bo n x))) x0 hx0
  have hx : x < 2 * n := by omega
  have b := bo_lt2 hx
  have dx := hd _ b
  have bx := bo_bo2 hx
  refine ⟨d (bo n x), bo n x, dx.1, dx.2.2, fun e => ?_, fun e => h2 ?_, h2, ?_, by omega, fun z hz z1 z2 => ?_⟩
  · have := dx.2.2
    rw [e, hc] at this
    rw [← this, bj] at bx
    omega
  · rw [e]; unfold Rt; rw [bj]; omega
  · unfold Rt; rw [bx]; omega
  · rw [bx] at z2
    refine Classical.byContradiction fun c => h3 (bo n z) z2 ⟨⟨z1, by omega⟩, ?_⟩
    rw [bo_bo2 hz]; exact c
/-! ### heights -/
def sumN (f : Nat → Int) : Nat → Int
  | 0 => 0
  | N + 1 => sumN f N + f N
theorem sumN_congr {f g : Nat → Int} (N : Nat) (h : ∀ x, x < N → f x = g x) : sumN f N = sumN g N := by
  induction N with
  | zero => rfl
  | succ N ih => simp only [sumN]; rw [ih (fun x hx => h x (by omega)), h N (by omega)]
theorem sumN_add (f g : Nat → Int) (N : Nat) : sumN (fun x => f x + g x) N = sumN f N + sumN g N := by
  induction N with
  | zero => rfl
  | succ N ih => simp only [sumN]; rw [ih]; omega
noncomputable def ind (P : Prop) : Int := open Classical in if P then 1 else 0
theorem ind_yes {P : Prop} (h : P) : ind P = 1 := if_pos h
theorem ind_no {P : Prop} (h : ¬ P) : ind P = 0 := if_neg h
theorem cntP_sum (P : Nat → Prop) (N : Nat) : (cntP P N : Int) = sumN (fun x => ind (P x)) N := by
  induction N with
  | zero => rfl
  | succ N ih =>
    simp only [cntP, sumN]
    rw [← ih]
    by_cases c : P N
    · rw [if_pos c, ind_yes c]; omega
    · rw [if_neg c, ind_no c]; omega
theorem sum_one {f g : Nat → Int} {a : Nat} (N : Nat) (ha : a < N) (h : ∀ x, x < N → x ≠ a → f x = g x) : sumN f N = sumN g N + (f a - g a) := by
  induction N with
  | zero => omega
  | succ N ih =>
    simp only [sumN]
    by_cases c : a = N
    · rw [sumN_congr N (fun x hx => h x (by omega) (by omega)), c]; omega
    · rw [ih (by omega) (fun x hx hne => h x (by omega) hne), h N (by omega) (fun e => c e.symm)]; omega
theorem sum_four {f g : Nat → Int} {a b c e : Nat} (N : Nat) (ha : a < N) (hb : b < N) (hc : c < N) (he : e < N) (h1 : a ≠ b) (h2 : a ≠ c) (h3 : a ≠ e) (h4 : b ≠ c) (h5 : b ≠ e) (h6 : c ≠ e)
    (h : ∀ x, x < N → x ≠ a → x ≠ b → x ≠ c → x ≠ e → f x = g x) : sumN f N = sumN g N + (f a - g a) + (f b - g b) + (f c - g c) + (f e - g e) := by
  have s1 := sum_one (f := f) (g := fun x => if x = a then g x else f x) (a := a) N ha (fun x _ hx => by rw [if_neg hx])
  have s2 := sum_one (f := fun x => if x = a then g x else f x) (g := fun x => if x = a then g x else if x = b then g x else f x) (a := b) N hb (fun x _ hx => by by_cases q : x = a <;> simp [q, hx])
  have s3 := sum_one (f := fun x => if x = a then g x else if x = b then g x else f x) (g := fun x => if x = a then g x else if x = b then g x else if x = c then g x else f x) (a := c) N hc (fun x _ hx => by by_cases q : x = a <;> by_cases r : x = b <;> simp [q, r, hx])
  have s4 := sum_one (f := fun x => if x = a then g x else if x = b then g x else if x = c then g x else f x) (g := g) (a := e) N he (fun x hx hne => by
    by_cases q1 : x = a
    · rw [if_pos q1]
    · rw [if_neg q1]
      by_cases q2 : x = b
      · rw [if_pos q2]
      · rw [if_neg q2]
        by_cases q3 : x = c
        · rw [if_pos q3]
        · rw [if_neg q3]; exact h x hx q1 q2 q3 hne)
  simp only at s1 s2 s3 s4
  rw [if_pos trivial] at s1
  rw [if_neg (Ne.symm h1), if_neg (Ne.symm h1), if_pos trivial] at s2
  rw [if_neg (Ne.symm h2), if_neg (Ne.symm h4), if_neg (Ne.symm h2), if_neg (Ne.symm h4), if_pos trivial] at s3
  rw [if_neg (Ne.symm h3), if_neg (Ne.symm h5), if_neg (Ne.symm h6)] at s4
  omega
/-- how far to the right -/
def xc (n z : Nat) : Nat := if z < n then z else z - n
/-- the strands that cross the line behind column j -/
def lin (n : Nat) (d : Nat → Nat) (j z : Nat) : Prop := xc n z ≤ j ∧ j < xc n (d z)
noncomputable def HS (n : Nat) (d : Nat → Nat) : Int := sumN (fun j => (cntP (lin n d j) (2 * n) : Int)) (n - 1)
theorem hs_congr {n : Nat} {d e : Nat → Nat} (h : ∀ z, z < 2 * n → d z = e z) : HS n d = HS n e := by
  refine sumN_congr _ (fun j _ => ?_)
  rw [cntP_congr (2 * n) (fun z hz => by unfold lin; rw [h z hz] : ∀ z, z < 2 * n → (lin n d j z ↔ lin n e j z))]
theorem sum_seg (a b : Nat) (N : Nat) : sumN (fun j => ind (a ≤ j ∧ j < b)) N = if a ≤ (if b ≤ N then b else N) then ((if b ≤ N then b else N : Nat) : Int) - a else 0 := by
  induction N with
  | zero => simp only [sumN]; by_cases c : b ≤ 0 <;> by_cases e : a ≤ 0 <;> simp [c, e] <;> omega
  | succ N ih =>
    simp only [sumN]
    rw [ih]
    by_cases c : a ≤ N ∧ N < b
    · rw [ind_yes c]
      by_cases e : b ≤ N <;> by_cases f : b ≤ N + 1 <;> simp only [e, f, if_true, if_false] <;> (repeat' split) <;> omega
    · rw [ind_no c]
      by_cases e : b ≤ N <;> by_cases f : b ≤ N + 1 <;> simp only [e, f, if_true, if_false] <;> (repeat' split) <;> omega
/-- how far apart -/
def dd (a b : Nat) : Int := if a ≤ b then (b : Int) - a else (a : Int) - b
theorem sum_dd {a b N : Nat} (ha : a ≤ N) (hb : b ≤ N) : sumN (fun j => ind (a ≤ j ∧ j < b)) N + sumN (fun j => ind (b ≤ j ∧ j < a)) N = dd a b := by
  rw [sum_seg, sum_seg, if_pos ha, if_pos hb]
  unfold dd
  by_cases c : a ≤ b <;> by_cases e : b ≤ a <;> simp only [c, e, if_true, if_false] <;> omega
theorem xc_lt {n z : Nat} (h0 : 0 < n) (h : z < 2 * n) : xc n z < n := by unfold xc; split <;> omega
/-- the height of a diagram with a hook on top -/
theorem hs_tl {n i : Nat} {o : Nat → Nat} (ho : Mat n o) (hi : i + 1 < n) (hne : o i ≠ i + 1) :
    HS n (tl i o) = HS n o + 1 + dd (xc n (o i)) (xc n (o (i + 1))) - dd i (xc n (o i)) - dd (i + 1) (xc n (o (i + 1))) := by
  have oi := ho i (by omega)
  have oj := ho (i + 1) (by omega)
  have hji : o (i + 1) ≠ i := fun f => by rw [f] at oj; omega
  have hpq : o i ≠ o (i + 1) := fun f => by have := oi.2.2; rw [f, oj.2.2] at this; omega
  have xi : xc n i = i := by unfold xc; rw [if_pos (by omega)]
  have xj : xc n (i + 1) = i + 1 := by unfold xc; rw [if_pos (by omega)]
  have t1 : tl i o i = i + 1 := if_pos rfl
  have t2 : tl i o (i + 1) = i := by unfold tl; rw [if_neg (by omega), if_pos rfl]
  have t3 : tl i o (o i) = o (i + 1) := by unfold tl; rw [if_neg oi.2.1, if_neg hne, if_pos oi.2.2]
  have t4 : tl i o (o (i + 1)) = o i := by unfold tl; rw [if_neg hji, if_neg oj.2.1, if_neg (by rw [oj.2.2]; omega), if_pos oj.2.2]
  have line : ∀ j, (cntP (lin n (tl i o) j) (2 * n) : Int) = (cntP (lin n o j) (2 * n) : Int) + (ind (i ≤ j ∧ j < i + 1) - ind (i ≤ j ∧ j < xc n (o i))) + (ind (i + 1 ≤ j ∧ j < i) - ind (i + 1 ≤ j ∧ j < xc n (o (i + 1)))) +
      (ind (xc n (o i) ≤ j ∧ j < xc n (o (i + 1))) - ind (xc n (o i) ≤ j ∧ j < i)) + (ind (xc n (o (i + 1)) ≤ j ∧ j < xc n (o i)) - ind (xc n (o (i + 1)) ≤ j ∧ j < i + 1)) := by
    intro j
    rw [cntP_sum, cntP_sum]
    have s := sum_four (f := fun x => ind (lin n (tl i o) j x)) (g := fun x => ind (lin n o j x)) (a := i) (b := i + 1) (c := o i) (e := o (i + 1)) (2 * n) (by omega) (by omega) oi.1 oj.1 (by omega) (Ne.symm oi.2.1) (Ne.symm hji) (Ne.symm hne) (Ne.symm oj.2.1) hpq (fun x hx a b c e => by
      have ox := ho x hx
      have : tl i o x = o x := by unfold tl; rw [if_neg a, if_neg b, if_neg (fun f => c (by rw [← f, ox.2.2])), if_neg (fun f => e (by rw [← f, ox.2.2]))]
      unfold lin; rw [this])
    unfold lin at s
    rw [t1, t2, t3, t4, oi.2.2, oj.2.2, xi, xj] at s
    exact s
  unfold HS
  rw [sumN_congr _ (fun j _ => line j)]
  have p := xc_lt (by omega) oi.1
  have q := xc_lt (by omega) oj.1
  have d1 := sum_dd (a := i) (b := i + 1) (N := n - 1) (by omega) (by omega)
  have d2 := sum_dd (a := i) (b := xc n (o i)) (N := n - 1) (by omega) (by omega)
  have d3 := sum_dd (a := i + 1) (b := xc n (o (i + 1))) (N := n - 1) (by omega) (by omega)
  have d4 := sum_dd (a := xc n (o i)) (b := xc n (o (i + 1))) (N := n - 1) (by omega) (by omega)
  have e1 : dd i (i + 1) = 1 := by unfold dd; rw [if_pos (by omega)]; omega
  rw [e1] at d1
  have sub : ∀ f g : Nat → Int, sumN (fun x => f x - g x) (n - 1) = sumN f (n - 1) - sumN g (n - 1) := fun f g => by
    have a := sumN_add (fun x => f x - g x) g (n - 1)
    have b := sumN_congr (f := fun x => f x - g x + g x) (g := f) (n - 1) (fun x _ => by omega)
    rw [b] at a
    omega
  rw [sumN_add, sumN_add, sumN_add, sumN_add, sub, sub, sub, sub]
  omega
/-- a hook on top makes a diagram higher by at most one, or not -/
theorem hs_step {n i : Nat} {o : Nat → Nat} (ho : Mat n o) (hi : i + 1 < n) (hne : o i ≠ i + 1) :
    ∃ k : Int, HS n (tl i o) = HS n o + 2 * k ∧ k ≤ 1 ∧ (k = 1 ↔ xc n (o i) ≤ i ∧ i + 1 ≤ xc n (o (i + 1))) := by
  rw [hs_tl ho hi hne]
  generalize xc n (o i) = P
  generalize xc n (o (i + 1)) = Q
  have h : ∃ k : Int, 1 + dd P Q - dd i P - dd (i + 1) Q = 2 * k ∧ k ≤ 1 ∧ (k = 1 ↔ P ≤ i ∧ i + 1 ≤ Q) := by
    unfold dd
    by_cases a : P ≤ i <;> by_cases b : i + 1 ≤ Q
    · exact ⟨1, by rw [if_pos (by omega), if_pos b]; split <;> omega, by omega, by omega⟩
    · by_cases c : P ≤ Q
      · exact ⟨(Q : Int) - i, by rw [if_pos c, if_neg b]; split <;> omega, by omega, by omega⟩
      · exact ⟨(P : Int) - i, by rw [if_neg c, if_neg b]; split <;> omega, by omega, by omega⟩
    · by_cases c : P ≤ Q
      · exact ⟨1 + (i : Int) - P, by rw [if_pos c, if_pos b, if_pos (by omega)]; omega, by omega, by omega⟩
      · exact ⟨1 + (i : Int) - Q, by rw [if_neg c, if_pos b, if_pos (by omega)]; omega, by omega, by omega⟩
    · exact ⟨0, by rw [if_neg (by omega), if_neg b, if_pos (by omega)]; omega, by omega, by omega⟩
  obtain ⟨k, h1, h2, h3⟩ := h
  exact ⟨k, by omega, h2, h3⟩
theorem hs_id {n : Nat} : HS n (idf n) = 0 := by
  unfold HS
  have e : ∀ j, cntP (lin n (idf n) j) (2 * n) = 0 := fun j => cntP_none _ (fun z hz h => by
    unfold lin xc idf at h
    by_cases c : z < n <;> simp only [c, if_true, if_false] at h <;> (repeat' split at h) <;> omega)
  rw [sumN_congr (g := fun _ => 0) _ (fun j _ => by rw [e j]; rfl)]
  generalize n - 1 = m
  induction m with
  | zero => rfl
  | succ m ih => simp only [sumN]; rw [ih]; rfl
/-! ### where there is no cup -/
theorem cup_ind {n : Nat} {d : Nat → Nat} (hd : Mat n d) (hn : NCf n d) (m : Nat) : ∀ a, a < d a → d a < n → d a - a ≤ m → ∃ i, i + 1 < n ∧ d i = i + 1 := by
  induction m with
  | zero => intro a h1 h2 h3; omega
  | succ m ih =>
    intro a h1 h2 h3
    by_cases e : d a = a + 1
    · exact ⟨a, by omega, e⟩
    · have da := hd a (by omega)
      have dc := hd (a + 1) (by omega)
      have n1 := hn a (a + 1) (by omega) (by omega)
      have n2 := hn (d (a + 1)) a dc.1 (by omega)
      rw [dc.2.2] at n2
      have v1 : bo n a = a := bo_val (by omega)
      have v2 : bo n (a + 1) = a + 1 := bo_val (by omega)
      have v3 : bo n (d a) = d a := bo_val h2
      rw [v1, v2, v3] at n1 n2
      have x1 : d (a + 1) ≠ d a := fun f => by have := dc.2.2; rw [f, da.2.2] at this; omega
      have x2 : d (a + 1) ≠ a := fun f => by have := dc.2.2; rw [f] at this; omega
      have c : d (a + 1) < n := by
        refine Classical.byContradiction fun c => ?_
        have : n ≤ bo n (d (a + 1)) := by unfold bo; rw [if_neg c]; omega
        omega
      have v4 : bo n (d (a + 1)) = d (a + 1) := bo_val c
      rw [v4] at n1 n2
      exact ih (a + 1) (by omega) c (by omega)
theorem cup_ex {n : Nat} {d : Nat → Nat} (hd : Mat n d) (hn : NCf n d) {a : Nat} (h1 : a < n) (h2 : d a < n) : ∃ i, i + 1 < n ∧ d i = i + 1 := by
  have da := hd a (by omega)
  by_cases c : a < d a
  · exact cup_ind hd hn _ a c h2 (Nat.le_refl _)
  · exact cup_ind hd hn _ (d a) (by rw [da.2.2]; omega) (by rw [da.2.2]; omega) (Nat.le_refl _)
theorem ncd_bo {n : Nat} {d : Nat → Nat} (hn : NCf n d) : NCD (2 * n) (fun x => bo n (d (bo n x))) := by
  intro a c ha hc h
  have := hn (bo n a) (bo n c) (bo_lt2 ha) (bo_lt2 hc)
  rw [bo_bo2 ha, bo_bo2 hc] at this
  exact this h
theorem idf_nc {n : Nat} : NCf n (idf n) := by
  intro i k hi hk c
  unfold bo idf at c
  by_cases ci : i < n <;> by_cases ck : k < n <;> simp only [ci, ck, ↓reduceIte] at c <;> (repeat' split at c) <;> omega
theorem no_cup {n : Nat} {d : Nat → Nat} (hd : Mat n d) (hn : NCf n d) (h : ∀ i, i + 1 < n → d i ≠ i + 1) : ∀ z, z < 2 * n → d z = idf n z := by
  have up : ∀ a, a < n → n ≤ d a := fun a ha => Classical.byContradiction fun c => by
    obtain ⟨i, h1, h2⟩ := cup_ex hd hn ha (by omega)
    exact h i h1 h2
  have lo : ∀ i, i < n → d (n + i) < n := fun i hi => by
    have e : cntP (fun i => d (n + i) < n) n = cntP (fun _ => True) n := by
      rw [← thr_low hd]
      exact cntP_congr n (fun i hi => ⟨fun _ => trivial, fun _ => up i hi⟩)
    exact cntP_eq n (fun _ _ _ => trivial) e i hi trivial
  have b := brackets_det (bo_pair hd) (bo_pair (@idf_mat n)) (ncd_bo hn) (ncd_bo idf_nc) (fun x hx => by
    by_cases c : x < n
    · have v : bo n x = x := bo_val c
      rw [v]
      have u := up x c
      have r := (hd x hx).1
      have e1 : n ≤ bo n (d x) := by unfold bo; rw [if_neg (by omega)]; omega
      have e2 : n ≤ bo n (idf n x) := by rw [idf_lo c]; unfold bo; rw [if_neg (by omega)]; omega
      omega
    · have v : bo n x = n + (2 * n - 1 - x) := by unfold bo; rw [if_neg c]; omega
      rw [v]
      have u := lo (2 * n - 1 - x) (by omega)
      rw [bo_val u, idf_hi, bo_val (by omega)]
      omega)
  intro z hz
  have bz := b (bo n z) (bo_lt2 hz)
  rw [bo_bo2 hz] at bz
  exact bo_inj2 (hd z hz).1 (idf_mat z hz).1 bz
/-! ### the program's way to count -/
theorem lin_cnt {n : Nat} {d : Nat → Nat} (hd : Mat n d) (j : Nat) : cntP (fun z => z < d z ∧ (decide (xc n z ≤ j) != decide (xc n (d z) ≤ j)) = true) (2 * n) = cntP (lin n d j) (2 * n) := by
  have s1 := cntP_split (lin n d j) (fun z => z < d z) (2 * n)
  have s2 := cntP_split (fun z => z < d z ∧ (decide (xc n z ≤ j) != decide (xc n (d z) ≤ j)) = true) (fun z => xc n z ≤ j) (2 * n)
  have p : cntP (fun z => lin n d j z ∧ ¬ z < d z) (2 * n) = cntP (fun z => (z < d z ∧ (decide (xc n z ≤ j) != decide (xc n (d z) ≤ j)) = true) ∧ ¬ xc n z ≤ j) (2 * n) := by
    rw [← cntP_perm (N := 2 * n) hd (fun z => lin n d j z ∧ ¬ z < d z)]
    refine cntP_congr _ (fun z hz => ?_)
    have dz := hd z hz
    unfold lin
    rw [dz.2.2]
    simp only [bne_iff_ne, ne_eq, decide_eq_decide]
    omega
  have q : cntP (fun z => lin n d j z ∧ z < d z) (2 * n) = cntP (fun z => (z < d z ∧ (decide (xc n z ≤ j) != decide (xc n (d z) ≤ j)) = true) ∧ xc n z ≤ j) (2 * n) := by
    refine cntP_congr _ (fun z hz => ?_)
    unfold lin
    simp only [bne_iff_ne, ne_eq, decide_eq_decide]
    omega
  omega
/-! ### relations -/
theorem tl_idem (i : Nat) (o : Nat → Nat) (z : Nat) : tl i (tl i o) z = tl i o z := by
  unfold tl
  grind
theorem tl_comm {n i j : Nat} {o : Nat → Nat} (ho : Mat n o) (hi : i + 1 < n) (hj : j + 1 < n) (h : i + 1 < j ∨ j + 1 < i) {z : Nat} (hz : z < 2 * n) : tl i (tl j o) z = tl j (tl i o) z := by
  have a := (ho i (by omega)).2.2
  have b := (ho (i + 1) (by omega)).2.2
  have c := (ho j (by omega)).2.2
  have e := (ho (j + 1) (by omega)).2.2
  have f := (ho z hz).2.2
  clear ho
  unfold tl
  grind (splits := 60)
theorem tl_braid {n i j : Nat} {o : Nat → Nat} (ho : Mat n o) (hi : i + 1 < n) (hj : j + 1 < n) (h : i + 1 = j ∨ j + 1 = i) {z : Nat} (hz : z < 2 * n) : tl i (tl j (tl i o)) z = tl i o z := by
  have a := (ho i (by omega)).2
  have b := (ho (i + 1) (by omega)).2
  have c := (ho j (by omega)).2
  have e := (ho (j + 1) (by omega)).2
  have f := (ho z hz).2
  clear ho
  unfold tl
  grind
end Go.Proofs.Ytjfkompfkgjdaaa.G
end
section
/- A hook on top, heights and opened arches, as the program has them. -/
namespace Go.Proofs.Ytjfkompfkgjdaaa.L
open Go.RowKit Go.Proofs.Ytjfkompfkgjdaaa.PC Go.Proofs.YtjfkompfkgjdaaaW.PrintWords Go.Proofs.YtjfkompfkgjdaaaW.PrintLast Go.Proofs.Ytjfkompfkgjdaaa.G
/-! ### a hook on top -/
theorem top_list {n i : Nat} {o : List Int} (ho : LM n o) (hi : i + 1 < n) : LM n (prodL n (hkL n i) o) ∧ (∀ z, z < 2 * n → fn (prodL n (hkL n i) o) z = tl i (fn o) z) ∧ (fn o i ≠ i + 1 → lops n (fn (hkL n i)) (fn o) = 0) := by
  have h := hkL_lm hi
  have c := prod_congr (n := n) (a := fn (hkL n i)) (a' := G.hk n i) (b := fn o) (b' := fn o) (fun z hz => h.2 z hz) (fun _ _ => rfl)
  refine ⟨prodL_lm h.1 ho, fun z hz => ?_, fun hne => ?_⟩
  · rw [prodL_fn hz, c.1]; exact tl_prod ho.mat hi hz
  · rw [c.2]; exact tl_lops ho.mat hi hne
/-! ### heights -/
theorem tmod_xc {n z : Nat} (h0 : 0 < n) (hz : z < 2 * n) : Int.tmod (z : Int) (n : Int) = (xc n z : Int) := by
  have em : Int.tmod (z : Int) (n : Int) = ((z % n : Nat) : Int) := by rw [Int.tmod_eq_emod_of_nonneg (by omega)]; rfl
  rw [em]
  unfold xc
  by_cases c : z < n
  · rw [if_pos c, Nat.mod_eq_of_lt c]
  · rw [if_neg c, Nat.mod_eq_sub_mod (by omega), Nat.mod_eq_of_lt (by omega)]
def Crn (n : Nat) (l : List Int) (j z : Nat) : Prop := z < fn l z ∧ (decide (xc n z ≤ j) != decide (xc n (fn l z) ≤ j)) = true
theorem height_l1 {n : Nat} (h0 : 0 < n) (hn : n ≤ 500) {l : List Int} (h : LM n l) (s : Int) (j : Nat) (hs : 0 ≤ s ∧ s ≤ 1000000) (hj : j ≤ 1000) {r : Int}
    (nx : Ev (fun k => plait_diagram_height.l0 k l (n : Int) (s + (cntP (Crn n l j) (2 * n) : Int)) ((n - 1 : Nat) : Int) ((j + 1 : Nat) : Int)) r) (c : Nat) : ∀ i, i + c = 2 * n →
    Ev (fun k => plait_diagram_height.l1 k l (n : Int) s (j : Int) (cntP (Crn n l j) i : Int) ((n - 1 : Nat) : Int) (j : Int) l ((2 * n : Nat) : Int) (i : Int)) r := by
  have hl := h.len
  induction c with
  | zero =>
    intro i hi
    obtain rfl : i = 2 * n := by omega
    have hle := cntP_le (Crn n l j) (2 * n)
    refine Ev.step (fun k => ?_) nx
    simp only [plait_diagram_height.l1]
    rw [if_neg (by omega), pw64 (by omega) (by omega), pw64 (by omega) (by omega)]
    rfl
  | succ c ih =>
    intro i hi
    have hi2 : i < 2 * n := by omega
    have e := h.nn i hi2
    have m := (h.mat i hi2).1
    have hle := cntP_le (Crn n l j) i
    have g := ih (i + 1) (by omega)
    simp only [cntP] at g
    by_cases q : i < fn l i
    · have dc : (decide (Int.tmod (i : Int) (n : Int) ≤ (j : Int)) != decide (Int.tmod (rd l (i : Int)) (n : Int) ≤ (j : Int))) = (decide (xc n i ≤ j) != decide (xc n (fn l i) ≤ j)) := by
        rw [e, tmod_xc h0 hi2, tmod_xc h0 m]
        congr 1
        · rw [decide_eq_decide]; omega
        · rw [decide_eq_decide]; omega
      by_cases w : (decide (xc n i ≤ j) != decide (xc n (fn l i) ≤ j)) = true
      · rw [if_pos (show Crn n l j i from ⟨q, w⟩)] at g
        refine Ev.step (fun k => ?_) g
        simp only [plait_diagram_height.l1]
        rw [if_pos (by omega), if_pos (by omega), if_pos (by omega), if_pos (by rw [e]; omega), if_neg (by omega), dc, if_pos w, pw64 (by omega) (by omega), pw64 (by omega) (by omega)]
        rfl
      · rw [if_neg (fun f : Crn n l j i => w f.2)] at g
        refine Ev.step (fun k => ?_) g
        simp only [plait_diagram_height.l1]
        rw [if_pos (by omega), if_pos (by omega), if_pos (by omega), if_pos (by rw [e]; omega), if_neg (by omega), dc, if_neg w, pw64 (by omega) (by omega)]
        rfl
    · rw [if_neg (fun f : Crn n l j i => q f.1)] at g
      refine Ev.step (fun k => ?_) g
      simp only [plait_diagram_height.l1]
      rw [if_pos (by omega), if_pos (by omega), if_pos (by omega), if_neg (by rw [e]; omega), pw64 (by omega) (by omega)]
      rfl
theorem hsum_rng {n : Nat} (d : Nat → Nat) (m : Nat) : 0 ≤ sumN (fun j => (cntP (lin n d j) (2 * n) : Int)) m ∧ sumN (fun j => (cntP (lin n d j) (2 * n) : Int)) m ≤ (m : Int) * (2 * (n : Int)) := by
  induction m with
  | zero => simp [sumN]
  | succ m ih =>
    simp only [sumN]
    have := cntP_le (lin n d m) (2 * n)
    have e : ((m + 1 : Nat) : Int) * (2 * (n : Int)) = (m : Int) * (2 * (n : Int)) + 2 * (n : Int) := by
      rw [show ((m + 1 : Nat) : Int) = (m : Int) + 1 by omega, Int.add_mul, Int.one_mul]
    rw [e]
    omega
theorem hsum_20 {n : Nat} (hn : n ≤ 10) (d : Nat → Nat) {m : Nat} (hm : m ≤ 10) : 0 ≤ sumN (fun j => (cntP (lin n d j) (2 * n) : Int)) m ∧ sumN (fun j => (cntP (lin n d j) (2 * n) : Int)) m ≤ 200 := by
  have h := hsum_rng (n := n) d m
  have : (m : Int) * (2 * (n : Int)) ≤ 10 * 20 := Int.mul_le_mul (by omega) (by omega) (by omega) (by omega)
  omega
theorem hs_20 {n : Nat} (h0 : 0 < n) (hn : n ≤ 10) (d : Nat → Nat) : 0 ≤ HS n d ∧ HS n d ≤ 200 := hsum_20 hn d (by omega)
theorem height_l0 {n : Nat} (h0 : 0 < n) (hn : n ≤ 10) {l : List Int} (h : LM n l) (c : Nat) : ∀ j, j + c = n - 1 →
    Ev (fun k => plait_diagram_height.l0 k l (n : Int) (sumN (fun j => (cntP (lin n (fn l) j) (2 * n) : Int)) j) ((n - 1 : Nat) : Int) (j : Int)) (HS n (fn l) / 2) := by
  induction c with
  | zero =>
    intro j hj
    obtain rfl : j = n - 1 := by omega
    have b := hs_20 h0 hn (fn l)
    refine Ev.step (f := fun _ => some (HS n (fn l) / 2)) (fun k => ?_) (Ev.now _)
    simp only [plait_diagram_height.l0]
    rw [if_neg (by omega)]
    show some (wrap64 (Int.tdiv (HS n (fn l)) 2)) = _
    rw [Int.tdiv_eq_ediv_of_nonneg b.1, pw64 (by omega) (by omega)]
  | succ c ih =>
    intro j hj
    have b := hsum_20 hn (fn l) (m := j) (by omega)
    have g := ih (j + 1) (by omega)
    simp only [sumN] at g
    rw [← lin_cnt h.mat j] at g
    have hl := h.len
    have s := height_l1 h0 (by omega) h (sumN (fun j => (cntP (lin n (fn l) j) (2 * n) : Int)) j) j (by omega) (by omega) g (2 * n) 0 (by omega)
    refine Ev.step (fun k => ?_) s
    simp only [plait_diagram_height.l0]
    rw [if_pos (by omega), hl]
    rfl
theorem height_val {n : Nat} (h0 : 0 < n) (hn : n ≤ 10) {l : List Int} (h : LM n l) : Ev (fun k => plait_diagram_height.f k l) (HS n (fn l) / 2) := by
  have hl := h.len
  refine Ev.congr (fun k => ?_) (height_l0 h0 hn h (n - 1) 0 (by omega))
  unfold plait_diagram_height.f plait_diagram_size.f
  have e : wrap64 ((l.length : Int) / 2) = (n : Int) := by rw [pw64 (by omega) (by omega)]; omega
  rw [Option.bind_some, e, pw64 (by omega) (by omega), show (n : Int) - 1 = ((n - 1 : Nat) : Int) by omega]
  rfl
/-! ### arches of any pairing -/
theorem arches_lm {n : Nat} (h0 : 0 < n) (hn : n ≤ 10) {l : List Int} (h : LM n l) : ∃ s b, Ev (fun k => plait_diagram_arches.f k l) (s, b) ∧ (b = true ↔ NCD (2 * n) (Db n l)) := by
  have hr := arches_start (n := n) (by omega) h0 h.len (arch_run (by omega) h (2 * n) 0 [] [] (by omega) (fun y hy => by cases hy) (by simp) (by simp))
  refine ⟨_, _, hr, ?_⟩
  rw [← run_iff (db_pair h), List.isEmpty_iff]
/-! ### an arch opened -/
theorem openL {n : Nat} {d : List Int} (hd : LM n d) {p q e0 e1 : Nat} (hp : p < 2 * n) (hq : q < 2 * n) (h0 : e0 < 2 * n) (h1 : e1 < 2 * n) :
    (plait_open d (p : Int) (q : Int) (e0 : Int) (e1 : Int)).length = 2 * n ∧ ∀ z : Nat, z < 2 * n → rd (plait_open d (p : Int) (q : Int) (e0 : Int) (e1 : Int)) (z : Int) = ((if z = q then e1 else if z = e1 then q else if z = p then e0 else if z = e0 then p else fn d z : Nat) : Int) := by
  have hl := hd.len
  unfold plait_open
  simp only [Int.toNat_natCast]
  refine ⟨by simp [hl], fun z hz => ?_⟩
  rw [rd_set _ _ _ _ (by simp; omega), rd_set _ _ _ _ (by simp; omega), rd_set _ _ _ _ (by simp; omega), rd_set _ _ _ _ (by omega), hd.nn z hz]
  by_cases c1 : z = q
  · rw [if_pos c1, if_pos c1]
  · rw [if_neg c1, if_neg c1]
    by_cases c2 : z = e1
    · rw [if_pos c2, if_pos c2]
    · rw [if_neg c2, if_neg c2]
      by_cases c3 : z = p
      · rw [if_pos c3, if_pos c3]
      · rw [if_neg c3, if_neg c3]
        by_cases c4 : z = e0
        · rw [if_pos c4, if_pos c4]
        · rw [if_neg c4, if_neg c4]
/-- both ways to open the arch i, i + 1 towards a pair -/
theorem open_one {n i p q : Nat} {d : List Int} (hd : LM n d) (hi : i + 1 < n) (hc : fn d i = i + 1) (hp : p < 2 * n) (hpq : fn d p = q) (h1 : p ≠ i) (h2 : p ≠ i + 1) :
    (LM n (plait_open d (p : Int) (q : Int) (i : Int) ((i : Int) + 1)) ∧ ∀ z, z < 2 * n → fn (plait_open d (p : Int) (q : Int) (i : Int) ((i : Int) + 1)) z = pull (fn d) i p q z) ∧
    (LM n (plait_open d (p : Int) (q : Int) ((i : Int) + 1) (i : Int)) ∧ ∀ z, z < 2 * n → fn (plait_open d (p : Int) (q : Int) ((i : Int) + 1) (i : Int)) z = pull (fn d) i q p z) := by
  have dp := hd.mat p hp
  rw [hpq] at dp
  have di := hd.mat i (by omega)
  rw [hc] at di
  have q1 : q ≠ i := fun e => by rw [e] at dp; omega
  have q2 : q ≠ i + 1 := fun e => by rw [e] at dp; omega
  have e : ((i : Int) + 1) = ((i + 1 : Nat) : Int) := by omega
  rw [e]
  constructor
  · obtain ⟨a, b⟩ := openL hd hp dp.1 (show i < 2 * n by omega) (show i + 1 < 2 * n by omega)
    refine lm_of_fun a (fun z hz => ?_) (opn_mat hd.mat hi hp h1 h2 hpq hc)
    rw [b z hz]
    congr 1
    unfold pull
    by_cases c1 : z = i
    · rw [if_neg (by omega), if_neg (by omega), if_neg (by omega), if_pos c1, if_pos c1]
    · by_cases c2 : z = i + 1
      · rw [if_neg (by omega), if_pos c2, if_neg c1, if_pos c2]
      · by_cases c3 : z = p
        · rw [if_neg (by omega), if_neg c2, if_pos c3, if_neg c1, if_neg c2, if_pos c3]
        · by_cases c4 : z = q
          · rw [if_pos c4, if_neg c1, if_neg c2, if_neg c3, if_pos c4]
          · rw [if_neg c4, if_neg c2, if_neg c3, if_neg c1, if_neg c1, if_neg c2, if_neg c3, if_neg c4]
  · obtain ⟨a, b⟩ := openL hd hp dp.1 (show i + 1 < 2 * n by omega) (show i < 2 * n by omega)
    refine lm_of_fun a (fun z hz => ?_) (opn_mat hd.mat hi dp.1 q1 q2 dp.2.2 hc)
    rw [b z hz]
    congr 1
    unfold pull
    by_cases c1 : z = i
    · rw [if_neg (by omega), if_pos c1, if_pos c1]
    · by_cases c2 : z = i + 1
      · rw [if_neg (by omega), if_neg c1, if_neg (by omega), if_pos c2, if_neg c1, if_pos c2]
      · by_cases c3 : z = q
        · rw [if_pos c3, if_neg c1, if_neg c2, if_pos c3]
        · by_cases c4 : z = p
          · rw [if_neg c3, if_neg c1, if_pos c4, if_neg c1, if_neg c2, if_neg c3, if_pos c4]
          · rw [if_neg c3, if_neg c1, if_neg c4, if_neg c2, if_neg c1, if_neg c2, if_neg c3, if_neg c4]
/-- a candidate is the one that is wanted -/
def Good (n : Nat) (d c : List Int) : Prop := Dia n c ∧ HS n (fn d) = HS n (fn c) + 2
theorem try_val {n i p q : Nat} (h0 : 0 < n) (hn : n ≤ 10) {d c : List Int} (hd : LM n d) (hi : i + 1 < n) (hc : fn d i = i + 1) (hp : p < 2 * n) (hpq : fn d p = q) (h1 : p ≠ i) (h2 : p ≠ i + 1)
    (hl : LM n c) (hf : ∀ z, z < 2 * n → fn c z = pull (fn d) i p q z) :
    Ev (fun k => plait_try k d n (i : Int) (wrap64 (HS n (fn d) / 2 - 1)) c) (open Classical in if Good n d c then some c else none) := by
  obtain ⟨s, b, ea, hb⟩ := arches_lm h0 hn hl
  have bd := hs_20 h0 hn (fn d)
  have bc := hs_20 h0 hn (fn c)
  have dn : ∀ z, z < 2 * n → tl i (fn c) z = fn d z := fun z hz => by
    have t := tl_opn hd.mat hi hc hp h1 h2 hpq hz
    have fi := hf i (by omega)
    have fj := hf (i + 1) (by omega)
    unfold tl at t ⊢
    rw [fi, fj, hf z hz]
    exact t
  have ci : fn c i = p := by rw [hf i (by omega)]; exact if_pos rfl
  have hne : fn c i ≠ i + 1 := by rw [ci]; exact h2
  obtain ⟨k0, s1, s2, _⟩ := hs_step hl.mat hi hne
  rw [hs_congr dn] at s1
  obtain ⟨t1, t2, t3⟩ := top_list hl hi
  have ep : prodL n (hkL n i) c = d := lm_eq t1 hd (fun z hz => by rw [t2 z hz, dn z hz])
  refine Ev.congr (fun k => rfl) (Ev.bind ea ?_)
  have ew : wrap64 (HS n (fn d) / 2 - 1) = HS n (fn d) / 2 - 1 := pw64 (by omega) (by omega)
  by_cases cb : b = true
  · have hD : Dia n c := ⟨h0, hn, hl, hb.1 cb⟩
    refine Ev.congr (fun k => by rw [if_pos cb]) ?_
    refine Ev.bind (height_val h0 hn hl) ?_
    by_cases cg : HS n (fn d) = HS n (fn c) + 2
    · rw [if_pos (show Good n d c from ⟨hD, cg⟩)]
      refine Ev.congr (fun k => by rw [if_pos (by rw [ew]; omega)]) ?_
      refine Ev.bind (hook_ev (by omega) hi) ?_
      refine Ev.congr (f := fun k => (plait_diagram_int_69.f k d d).bind fun eq => if eq = true then some (some c) else some none) (fun k => by
        rw [product_ok (by omega) (hkL_lm hi).1 hl, Option.bind_some, t3 hne, ep]
        exact if_pos rfl) ?_
      have ll := hd.len
      refine Ev.bind (eq_ev (a := d) (b := d) (by omega) rfl) ?_
      exact Ev.congr (fun k => by rw [if_pos (decide_eq_true rfl)]) (Ev.now _)
    · rw [if_neg (fun g : Good n d c => cg g.2)]
      exact Ev.congr (fun k => by rw [if_neg (by rw [ew]; omega)]) (Ev.now _)
  · rw [if_neg (fun g : Good n d c => cb (hb.2 g.1.nc))]
    exact Ev.congr (fun k => by rw [if_neg cb]) (Ev.now _)
end Go.Proofs.Ytjfkompfkgjdaaa.L
end
section
/- The first shortest word, as the program finds it. -/
namespace Go.Proofs.Ytjfkompfkgjdaaa.L
open Go.RowKit Go.Proofs.Ytjfkompfkgjdaaa.PC Go.Proofs.YtjfkompfkgjdaaaW.PrintWords Go.Proofs.YtjfkompfkgjdaaaW.PrintLast Go.Proofs.Ytjfkompfkgjdaaa.G
theorem rt_xc {n i z : Nat} (hi : i + 1 < n) (hz : z < 2 * n) : Rt n i z ↔ i + 1 ≤ xc n z := by
  unfold Rt G.bo xc
  by_cases c : z < n
  · rw [if_pos c, if_pos c]; omega
  · rw [if_neg c, if_neg c]; omega
theorem hs_cup {n i : Nat} {o : Nat → Nat} (ho : Mat n o) (hi : i + 1 < n) (h : o i = i + 1) : HS n (tl i o) = HS n o := by
  refine hs_congr (fun z hz => ?_)
  have oi := ho i (by omega)
  rw [h] at oi
  have oz := ho z hz
  unfold tl
  by_cases c1 : z = i
  · rw [if_pos c1, c1, h]
  · by_cases c2 : z = i + 1
    · rw [if_neg c1, if_pos c2, c2, oi.2.2]
    · rw [if_neg c1, if_neg c2, if_neg (fun f => c2 (by have := oz.2.2; rw [f, h] at this; exact this.symm)), if_neg (fun f => c1 (by have := oz.2.2; rw [f, oi.2.2] at this; exact this.symm))]
theorem top_hs {n i : Nat} {c d : List Int} (hc : LM n c) (hi : i + 1 < n) (e : prodL n (hkL n i) c = d) : HS n (fn d) = HS n (tl i (fn c)) := by
  subst e
  exact hs_congr (fun z hz => (top_list hc hi).2.1 z hz)
/-- a hook more makes the height greater by at most one -/
theorem hs_le {n i : Nat} {c d : List Int} (hc : LM n c) (hi : i + 1 < n) (e : prodL n (hkL n i) c = d) : HS n (fn d) ≤ HS n (fn c) + 2 := by
  rw [top_hs hc hi e]
  by_cases h : fn c i = i + 1
  · rw [hs_cup hc.mat hi h]; omega
  · obtain ⟨k, s1, s2, _⟩ := hs_step hc.mat hi h; omega
structure Got (n i : Nat) (d c : List Int) : Prop where
  ne : fn c i ≠ i + 1
  lft : ¬ Rt n i (fn c i)
  rgt : Rt n i (fn c (i + 1))
  nj : G.bo n (fn c (i + 1)) ≠ i + 1
  pair : fn d (fn c i) = fn c (i + 1)
  plt : fn c i < 2 * n
  pi : fn c i ≠ i
  cup : fn d i = i + 1
  mn : ∀ z, z < 2 * n → i + 1 < G.bo n z → G.bo n z < G.bo n (fn c (i + 1)) → Rt n i (fn d z)
  eq : ∀ z, z < 2 * n → pull (fn d) i (fn c i) (fn c (i + 1)) z = fn c z
theorem good_got {n i : Nat} {c d : List Int} (hc : Dia n c) (hi : i + 1 < n) (e : prodL n (hkL n i) c = d) (s : HS n (fn d) = HS n (fn c) + 2) : Got n i d c := by
  have th := top_hs hc.lm hi e
  have ne : fn c i ≠ i + 1 := fun h => by rw [hs_cup hc.lm.mat hi h] at th; omega
  obtain ⟨k, s1, s2, s3⟩ := hs_step hc.lm.mat hi ne
  have k1 : k = 1 := by omega
  obtain ⟨x1, x2⟩ := s3.1 k1
  have oi := hc.lm.mat i (by omega)
  have oj := hc.lm.mat (i + 1) (by omega)
  have td : ∀ z, z < 2 * n → fn d z = tl i (fn c) z := fun z hz => by rw [← e]; exact (top_list hc.lm hi).2.1 z hz
  have lft : ¬ Rt n i (fn c i) := fun r => by have := (rt_xc hi oi.1).1 r; omega
  have rgt : Rt n i (fn c (i + 1)) := (rt_xc hi oj.1).2 x2
  have hji : fn c (i + 1) ≠ i := fun f => by rw [f] at oj; omega
  refine ⟨ne, lft, rgt, fun f => ?_, ?_, oi.1, oi.2.1, ?_, ?_, fun z hz => ?_⟩
  · exact oj.2.1 (bo_inj2 oj.1 (by omega) (by rw [f]; exact (bo_val (by omega)).symm))
  · rw [td _ oi.1]; unfold tl; rw [if_neg oi.2.1, if_neg ne, if_pos oi.2.2]
  · rw [td i (by omega)]; exact if_pos rfl
  · intro z hz z1 z2
    rw [td z hz]
    exact open_min hc.lm.mat (nc_iff.1 hc.nc) hi rfl rfl lft rgt z hz z1 z2
  · have := opn_tl hc.lm.mat hi ne hz
    rw [← this]
    unfold pull
    rw [td z hz]
theorem good_uniq {n i : Nat} {c c' d : List Int} (hd : Dia n d) (hi : i + 1 < n) (hc : Dia n c) (e : prodL n (hkL n i) c = d) (s : HS n (fn d) = HS n (fn c) + 2) (hc' : Dia n c') (e' : prodL n (hkL n i) c' = d) (s' : HS n (fn d) = HS n (fn c') + 2) : c = c' := by
  have g := good_got hc hi e s
  have g' := good_got hc' hi e' s'
  obtain ⟨q1, q2⟩ := open_uniq hd.lm.mat g.plt g.pair g.lft g.rgt g.nj g.mn g'.plt g'.pair g'.lft g'.rgt g'.nj g'.mn
  refine lm_eq hc.lm hc'.lm (fun z hz => ?_)
  rw [← g.eq z hz, ← g'.eq z hz, q1, q2]
theorem good_ex {n i : Nat} {d : List Int} (hd : Dia n d) (hi : i + 1 < n) (hcup : fn d i = i + 1) : ∃ p q, p < 2 * n ∧ fn d p = q ∧ p ≠ i ∧ p ≠ i + 1 ∧ Good n d (plait_open d (p : Int) (q : Int) (i : Int) ((i : Int) + 1)) ∧ prodL n (hkL n i) (plait_open d (p : Int) (q : Int) (i : Int) ((i : Int) + 1)) = d := by
  obtain ⟨p, q, a1, a2, a3, a4, a5, a6, a7, a8⟩ := open_ex hd.lm.mat hi hcup
  obtain ⟨⟨hl, hf⟩, _⟩ := open_one hd.lm hi hcup a1 a2 a3 a4
  have hn := opn_nc hd.lm.mat (nc_iff.1 hd.nc) hi hcup a1 a2 a3 a5 a6 a8
  have hD : Dia n (plait_open d (p : Int) (q : Int) (i : Int) ((i : Int) + 1)) := ⟨hd.pos, hd.lim, hl, nc_iff.2 (ncf_congr hf hn)⟩
  have dp := hd.lm.mat p a1
  rw [a2] at dp
  have ep : prodL n (hkL n i) (plait_open d (p : Int) (q : Int) (i : Int) ((i : Int) + 1)) = d := by
    obtain ⟨t1, t2, _⟩ := top_list hl hi
    refine lm_eq t1 hd.lm (fun z hz => ?_)
    have t := tl_opn hd.lm.mat hi hcup a1 a3 a4 a2 hz
    rw [t2 z hz]
    unfold tl at t ⊢
    rw [hf i (by omega), hf (i + 1) (by omega), hf z hz]
    exact t
  have ci : fn (plait_open d (p : Int) (q : Int) (i : Int) ((i : Int) + 1)) i = p := by rw [hf i (by omega)]; exact if_pos rfl
  have cj : fn (plait_open d (p : Int) (q : Int) (i : Int) ((i : Int) + 1)) (i + 1) = q := by rw [hf (i + 1) (by omega)]; unfold pull; rw [if_neg (by omega), if_pos rfl]
  have th := top_hs hl hi ep
  obtain ⟨k, s1, s2, s3⟩ := hs_step hl.mat hi (by rw [ci]; exact a4)
  rw [ci, cj] at s3
  have x1 : xc n p ≤ i := by
    refine Classical.byContradiction fun c => a5 ((rt_xc hi a1).2 (by omega))
  have x2 := (rt_xc hi dp.1).1 a6
  have k1 := s3.2 ⟨x1, x2⟩
  exact ⟨p, q, a1, a2, a3, a4, ⟨hD, by omega⟩, ep⟩
/-! ### the search -/
theorem cand_top {n i p q : Nat} {d c : List Int} (hd : LM n d) (hi : i + 1 < n) (hc : fn d i = i + 1) (hp : p < 2 * n) (hpq : fn d p = q) (h1 : p ≠ i) (h2 : p ≠ i + 1)
    (hl : LM n c) (hf : ∀ z, z < 2 * n → fn c z = pull (fn d) i p q z) : prodL n (hkL n i) c = d := by
  obtain ⟨t1, t2, _⟩ := top_list hl hi
  refine lm_eq t1 hd (fun z hz => ?_)
  have t := tl_opn hd.mat hi hc hp h1 h2 hpq hz
  rw [t2 z hz]
  unfold tl at t ⊢
  rw [hf i (by omega), hf (i + 1) (by omega), hf z hz]
  exact t
theorem ends_val {n i p : Nat} {d cs : List Int} (hd : Dia n d) (hi : i + 1 < n) (hcup : fn d i = i + 1) (gs : Good n d cs) (es : prodL n (hkL n i) cs = d) (hp : p < 2 * n) (h1 : p ≠ i) (h2 : p ≠ i + 1) :
    ∃ r, Ev (fun k => plait_ends k d n (i : Int) (wrap64 (HS n (fn d) / 2 - 1)) (p : Int) (fn d p : Int) 0) r ∧ (r = none ∨ r = some cs) ∧ (Good n d (plait_open d (p : Int) (fn d p : Int) (i : Int) ((i : Int) + 1)) → r = some cs) := by
  have dp := hd.lm.mat p hp
  have di := hd.lm.mat i (by omega)
  rw [hcup] at di
  have q1 : fn d p ≠ i := fun e => by have := dp.2.2; rw [e, hcup] at this; omega
  have q2 : fn d p ≠ i + 1 := fun e => by have := dp.2.2; rw [e, di.2.2] at this; omega
  obtain ⟨⟨l1, f1⟩, ⟨l2, f2⟩⟩ := open_one hd.lm hi hcup hp rfl h1 h2
  have t1 := try_val hd.pos hd.lim hd.lm hi hcup hp rfl h1 h2 l1 f1
  have t2 := try_val hd.pos hd.lim hd.lm hi hcup dp.1 dp.2.2 q1 q2 l2 f2
  have u1 : ∀ c, Good n d c → prodL n (hkL n i) c = d → c = cs := fun c g e => good_uniq hd hi g.1 e g.2 gs.1 es gs.2
  by_cases g1 : Good n d (plait_open d (p : Int) (fn d p : Int) (i : Int) ((i : Int) + 1))
  · rw [if_pos g1, show some (plait_open d (p : Int) (fn d p : Int) (i : Int) ((i : Int) + 1)) = some cs from congrArg some (u1 _ g1 (cand_top hd.lm hi hcup hp rfl h1 h2 l1 f1))] at t1
    refine ⟨some cs, ?_, .inr rfl, fun _ => rfl⟩
    refine Ev.congr (f := fun k => (plait_try k d n (i : Int) (wrap64 (HS n (fn d) / 2 - 1)) (plait_open d (p : Int) (fn d p : Int) (i : Int) ((i : Int) + 1))).bind fun r => if r.isSome = true then some r else ((plait_try k d n (i : Int) (wrap64 (HS n (fn d) / 2 - 1)) (plait_open d (p : Int) (fn d p : Int) ((i : Int) + 1) (i : Int))).bind fun s => some s)) (fun k => by simp only [plait_ends]) (Ev.bind t1 ?_)
    exact Ev.congr (fun k => by rw [if_pos (show (some cs).isSome = true from rfl)]) (Ev.now _)
  · rw [if_neg g1] at t1
    by_cases g2 : Good n d (plait_open d (p : Int) (fn d p : Int) ((i : Int) + 1) (i : Int))
    · rw [if_pos g2, show some (plait_open d (p : Int) (fn d p : Int) ((i : Int) + 1) (i : Int)) = some cs from congrArg some (u1 _ g2 (cand_top hd.lm hi hcup dp.1 dp.2.2 q1 q2 l2 f2))] at t2
      refine ⟨some cs, ?_, .inr rfl, fun _ => rfl⟩
      refine Ev.congr (f := fun k => (plait_try k d n (i : Int) (wrap64 (HS n (fn d) / 2 - 1)) (plait_open d (p : Int) (fn d p : Int) (i : Int) ((i : Int) + 1))).bind fun r => if r.isSome = true then some r else ((plait_try k d n (i : Int) (wrap64 (HS n (fn d) / 2 - 1)) (plait_open d (p : Int) (fn d p : Int) ((i : Int) + 1) (i : Int))).bind fun s => some s)) (fun k => by simp only [plait_ends]) (Ev.bind t1 ?_)
      refine Ev.congr (fun k => by rw [if_neg (show ¬ (none : Option (List Int)).isSome = true by decide)]) ?_
      exact Ev.bind t2 (Ev.now _)
    · rw [if_neg g2] at t2
      refine ⟨none, ?_, .inl rfl, fun g => absurd g g1⟩
      refine Ev.congr (f := fun k => (plait_try k d n (i : Int) (wrap64 (HS n (fn d) / 2 - 1)) (plait_open d (p : Int) (fn d p : Int) (i : Int) ((i : Int) + 1))).bind fun r => if r.isSome = true then some r else ((plait_try k d n (i : Int) (wrap64 (HS n (fn d) / 2 - 1)) (plait_open d (p : Int) (fn d p : Int) ((i : Int) + 1) (i : Int))).bind fun s => some s)) (fun k => by simp only [plait_ends]) (Ev.bind t1 ?_)
      refine Ev.congr (fun k => by rw [if_neg (show ¬ (none : Option (List Int)).isSome = true by decide)]) ?_
      exact Ev.bind t2 (Ev.now _)
theorem search_val {n i ps : Nat} {d cs : List Int} (hd : Dia n d) (hi : i + 1 < n) (hcup : fn d i = i + 1) (gs : Good n d cs) (es : prodL n (hkL n i) cs = d) (hps : ps < 2 * n) (s1 : ps ≠ i) (s2 : ps ≠ i + 1) (hc : cs = plait_open d (ps : Int) (fn d ps : Int) (i : Int) ((i : Int) + 1)) (m : Nat) : ∀ p, p + m = 2 * n → p ≤ ps →
    Ev (fun k => plait_search k d n (i : Int) (wrap64 (HS n (fn d) / 2 - 1)) m p) cs := by
  have hl := hd.lm.len
  have di := hd.lm.mat i (by omega)
  rw [hcup] at di
  induction m with
  | zero => intro p h1 h2; omega
  | succ m ih =>
    intro p h1 h2
    have hp2 : p < 2 * n := by omega
    have e := hd.lm.nn p hp2
    have dp := hd.lm.mat p hp2
    by_cases c : (p : Int) = i ∨ (p : Int) = (i : Int) + 1 ∨ rd d (p : Int) = i ∨ rd d (p : Int) = (i : Int) + 1
    · have ne : p ≠ ps := fun f => by
        rw [e] at c
        rcases c with c | c | c | c
        · omega
        · omega
        · have c : fn d p = i := by omega
          have := dp.2.2; rw [c, hcup] at this; omega
        · have c : fn d p = i + 1 := by omega
          have := dp.2.2; rw [c, di.2.2] at this; omega
      refine Ev.congr (fun k => ?_) (ih (p + 1) (by omega) (by omega))
      simp only [plait_search]
      rw [if_pos c]
    · obtain ⟨r, r1, r2, r3⟩ := ends_val hd hi hcup gs es hp2 (by omega) (by omega)
      refine Ev.congr (f := fun k => (plait_ends k d n (i : Int) (wrap64 (HS n (fn d) / 2 - 1)) (p : Int) (fn d p : Int) 0).bind fun r => if r.isSome = true then some (r.getD []) else plait_search k d n (i : Int) (wrap64 (HS n (fn d) / 2 - 1)) m (p + 1)) (fun k => ?_) ?_
      · simp only [plait_search]
        rw [if_neg c, if_pos (by omega), e]
      · refine Ev.bind r1 ?_
        rcases r2 with q | q
        · have ne : p ≠ ps := fun f => by
            have := r3 (by rw [f, ← hc]; exact gs)
            rw [q] at this; cases this
          rw [q]
          refine Ev.congr (fun k => ?_) (ih (p + 1) (by omega) (by omega))
          rw [if_neg (by decide)]
        · rw [q]
          exact Ev.congr (f := fun _ => some cs) (fun k => by rw [if_pos (show (some cs).isSome = true from rfl)]; rfl) (Ev.now _)
theorem short_val {n i : Nat} {d : List Int} (hd : Dia n d) (hi : i + 1 < n) : (fn d i ≠ i + 1 ∧ Ev (fun k => plait_short k d (i : Int)) []) ∨ (fn d i = i + 1 ∧ ∃ c, Good n d c ∧ prodL n (hkL n i) c = d ∧ Ev (fun k => plait_short k d (i : Int)) c) := by
  have hl := hd.lm.len
  have hn := hd.lim
  have e := hd.lm.nn i (by omega)
  have hh : d.length / 2 = n := by omega
  by_cases c : fn d i = i + 1
  · refine .inr ⟨c, ?_⟩
    obtain ⟨p, q, a1, a2, a3, a4, g, ep⟩ := good_ex hd hi c
    subst a2
    refine ⟨_, g, ep, ?_⟩
    have s := search_val hd hi c g ep a1 a3 a4 rfl (2 * n) 0 (by omega) (by omega)
    refine Ev.congr (f := fun k => (plait_diagram_height.f k d).bind fun ht => plait_search k d n (i : Int) (wrap64 (ht - 1)) (2 * n) 0) (fun k => ?_) (Ev.bind (height_val hd.pos hn hd.lm) s)
    unfold plait_short
    rw [hh, if_pos ⟨by omega, by omega, by omega, by omega⟩, if_pos (by rw [e]; omega)]
  · refine .inl ⟨c, Ev.congr (f := fun _ => some []) (fun k => ?_) (Ev.now _)⟩
    unfold plait_short
    rw [hh, if_pos ⟨by omega, by omega, by omega, by omega⟩, if_neg (by rw [e]; omega)]
theorem pick_val {n : Nat} {d : List Int} (hd : Dia n d) (m : Nat) : ∀ i, i + m = n - 1 → (∀ j, j < i → fn d j ≠ j + 1) → (∃ j, j + 1 < n ∧ fn d j = j + 1) →
    ∃ i' c, i' + 1 < n ∧ fn d i' = i' + 1 ∧ (∀ j, j < i' → fn d j ≠ j + 1) ∧ Good n d c ∧ prodL n (hkL n i') c = d ∧ Ev (fun k => plait_pick k d m i) (some (i', c)) := by
  induction m with
  | zero => intro i hi h1 ⟨j, h2, h3⟩; exact absurd h3 (h1 j (by omega))
  | succ m ih =>
    intro i hi h1 hex
    rcases short_val hd (i := i) (by omega) with ⟨c, s⟩ | ⟨c, o, g, ep, s⟩
    · obtain ⟨i', o, b1, b2, b3, b4, b5, b6⟩ := ih (i + 1) (by omega) (fun j hj => by
        by_cases q : j = i
        · rw [q]; exact c
        · exact h1 j (by omega)) hex
      refine ⟨i', o, b1, b2, b3, b4, b5, ?_⟩
      refine Ev.congr (f := fun k => (plait_short k d (i : Int)).bind fun o => if o = [] then plait_pick k d m (i + 1) else some (some (i, o))) (fun k => by simp only [plait_pick]) (Ev.bind s ?_)
      exact Ev.congr (fun k => by rw [if_pos rfl]) b6
    · refine ⟨i, o, by omega, c, h1, g, ep, ?_⟩
      refine Ev.congr (f := fun k => (plait_short k d (i : Int)).bind fun o => if o = [] then plait_pick k d m (i + 1) else some (some (i, o))) (fun k => by simp only [plait_pick]) (Ev.bind s ?_)
      have ne : o ≠ [] := fun f => by have h3 := g.1.pos; have h4 := g.1.lm.len; rw [f] at h4; simp at h4; omega
      exact Ev.congr (fun k => by rw [if_neg ne]) (Ev.now _)
/-- how the word of a diagram comes about -/
inductive Wd (n : Nat) : List Int → List Nat → Prop
  | nil : Wd n (idL n) []
  | cons {d c : List Int} {i : Nat} {w : List Nat} : Dia n d → i + 1 < n → fn d i = i + 1 → (∀ j, j < i → fn d j ≠ j + 1) → Good n d c → prodL n (hkL n i) c = d → Wd n c w → Wd n d (i :: w)
theorem no_cup_id {n : Nat} {d : List Int} (hd : Dia n d) (h : ∀ i, i + 1 < n → fn d i ≠ i + 1) : d = idL n := by
  refine lm_eq hd.lm (idL_lm n) (fun z hz => ?_)
  rw [no_cup hd.lm.mat (nc_iff.1 hd.nc) h z hz]
  exact (idL_fn hz).symm
def ints (w : List Nat) : List Int := w.map (fun x : Nat => (x : Int))
theorem wordGo_val {n : Nat} (m : Nat) : ∀ d, Dia n d → HS n (fn d) + 2 ≤ 2 * (m : Int) → ∃ w, Wd n d w ∧ ∀ out, Ev (fun k => plait_wordGo k m d out) (out ++ ints w) := by
  induction m with
  | zero => intro d hd h; have := (hs_20 hd.pos hd.lim (fn d)).1; omega
  | succ m ih =>
    intro d hd h
    have hl := hd.lm.len
    have hn := hd.lim
    have h0 := hd.pos
    have hh : d.length / 2 = n := by omega
    have b := hs_20 hd.pos hd.lim (fn d)
    by_cases ex : ∃ j, j + 1 < n ∧ fn d j = j + 1
    · obtain ⟨i, c, b1, b2, b3, b4, b5, b6⟩ := pick_val hd (n - 1) 0 (by omega) (fun j hj => by omega) ex
      have bc := hs_20 hd.pos hd.lim (fn c)
      have hs := b4.2
      obtain ⟨w, w1, w2⟩ := ih c b4.1 (by omega)
      refine ⟨i :: w, .cons hd b1 b2 b3 b4 b5 w1, fun out => ?_⟩
      refine Ev.congr (f := fun k => (plait_diagram_height.f k d).bind fun h => if h > 0 then ((plait_pick k d (n - 1) 0).bind fun r => if r.isSome = true then plait_wordGo k m (r.getD (0, [])).2 (out ++ [(((r.getD (0, [])).1 : Nat) : Int)]) else none) else some out) (fun k => ?_) ?_
      · simp only [plait_wordGo]
        rw [if_pos ⟨by omega, by omega, by omega⟩, hh]
      · refine Ev.bind (height_val h0 hn hd.lm) ?_
        refine Ev.congr (fun k => by rw [if_pos (show HS n (fn d) / 2 > 0 by omega)]) ?_
        refine Ev.bind b6 ?_
        have w3 := w2 (out ++ [(i : Int)])
        rw [List.append_assoc] at w3
        refine Ev.congr (fun k => ?_) w3
        rw [if_pos (show (some (i, c)).isSome = true from rfl)]; rfl
    · have e := no_cup_id hd (fun i hi f => ex ⟨i, hi, f⟩)
      have z : HS n (fn d) = 0 := by rw [e, hs_congr (fun z hz => idL_fn hz), hs_id]
      refine ⟨[], by rw [e]; exact .nil, fun out => ?_⟩
      refine Ev.congr (f := fun k => (plait_diagram_height.f k d).bind fun h => if h > 0 then ((plait_pick k d (n - 1) 0).bind fun r => if r.isSome = true then plait_wordGo k m (r.getD (0, [])).2 (out ++ [(((r.getD (0, [])).1 : Nat) : Int)]) else none) else some out) (fun k => ?_) ?_
      · simp only [plait_wordGo]
        rw [if_pos ⟨by omega, by omega, by omega⟩, hh]
      · refine Ev.bind (height_val h0 hn hd.lm) ?_
        rw [z]
        refine Ev.congr (f := fun _ => some (out ++ ints [])) (fun k => ?_) (Ev.now _)
        rw [if_neg (by decide)]
        simp [ints]
theorem word_val {n : Nat} {d : List Int} (hd : Dia n d) : ∃ w, Wd n d w ∧ Ev (fun k => plait_diagram_word.f k d) (ints w) := by
  have b := hs_20 hd.pos hd.lim (fn d)
  obtain ⟨w, w1, w2⟩ := wordGo_val 1000 d hd (by omega)
  exact ⟨w, w1, Ev.congr (fun k => rfl) (w2 [])⟩
/-! ### words -/
def actW (n : Nat) : List Nat → List Int → List Int
  | [], o => o
  | i :: w, o => prodL n (hkL n i) (actW n w o)
def okN (n : Nat) (w : List Nat) : Prop := ∀ i, i ∈ w → i + 1 < n
theorem act_append (n : Nat) (u v : List Nat) (o : List Int) : actW n (u ++ v) o = actW n u (actW n v o) := by
  induction u with
  | nil => rfl
  | cons i u ih => show prodL n (hkL n i) (actW n (u ++ v) o) = _; rw [ih]; rfl
theorem act_lm {n : Nat} {w : List Nat} (hw : okN n w) {o : List Int} (ho : LM n o) : LM n (actW n w o) := by
  induction w with
  | nil => exact ho
  | cons i w ih =>
    have hi := hw i List.mem_cons_self
    exact prodL_lm (hkL_lm hi).1 (ih (fun j hj => hw j (List.mem_cons_of_mem _ hj)))
theorem act_hs {n : Nat} {w : List Nat} (hw : okN n w) {o : List Int} (ho : LM n o) : HS n (fn (actW n w o)) ≤ HS n (fn o) + 2 * (w.length : Int) := by
  induction w with
  | nil => simp [actW]
  | cons i w ih =>
    have hi := hw i List.mem_cons_self
    have hw' : okN n w := fun j hj => hw j (List.mem_cons_of_mem _ hj)
    have := ih hw'
    have h := hs_le (act_lm hw' ho) hi (d := actW n (i :: w) o) rfl
    simp only [List.length_cons]
    omega
theorem hs_idL {n : Nat} : HS n (fn (idL n)) = 0 := by rw [hs_congr (fun z hz => idL_fn hz), hs_id]
theorem wd_val {n : Nat} {d : List Int} {w : List Nat} (h : Wd n d w) : okN n w ∧ actW n w (idL n) = d ∧ HS n (fn d) = 2 * (w.length : Int) := by
  induction h with
  | nil => exact ⟨fun i hi => (by cases hi), rfl, (by rw [hs_idL]; rfl)⟩
  | cons hd hi hc hm hg he _ ih =>
    obtain ⟨a, b, c⟩ := ih
    refine ⟨fun j hj => ?_, ?_, ?_⟩
    · rcases List.mem_cons.1 hj with rfl | hj
      · exact hi
      · exact a j hj
    · show prodL _ _ (actW _ _ _) = _
      rw [b, he]
    · have := hg.2
      simp only [List.length_cons]
      omega
end Go.Proofs.Ytjfkompfkgjdaaa.L
end
section
/- No word of a diagram is shorter than its word, or before it. -/
namespace Go.Proofs.Ytjfkompfkgjdaaa.L
open Go.RowKit Go.Proofs.Ytjfkompfkgjdaaa.PC Go.Proofs.YtjfkompfkgjdaaaW.PrintWords Go.Proofs.YtjfkompfkgjdaaaW.PrintLast Go.Proofs.Ytjfkompfkgjdaaa.G
/-! ### Hooks of a word -/
theorem ints_len (v : List Nat) : (ints v).length = v.length := by simp [ints]
theorem ints_rd {v : List Nat} {j : Nat} (h : j < v.length) : rd (ints v) (j : Int) = ((v[j]'h : Nat) : Int) := by
  unfold rd ints
  rw [Int.toNat_natCast, List.getD_eq_getElem?_getD]
  simp [h]
theorem ints_ok {n : Nat} {v : List Nat} (h : okN n v) : okW n (ints v) := by
  intro j hj
  rw [ints_len] at hj
  rw [ints_rd hj]
  have := h _ (List.getElem_mem hj)
  omega
theorem hkW_act {n : Nat} {v : List Nat} (hv : okN n v) (d : Nat) : ∀ (j : Nat) (l : List Int) (s : Int), j + d = v.length → LM n l → (hkW n (ints v) d j l s).1 = prodL n l (actW n (v.drop j) (idL n)) := by
  induction d with
  | zero =>
    intro j l s hj h
    simp only [hkW]
    rw [List.drop_of_length_le (by omega)]
    exact (prodL_id h).1.symm
  | succ d ih =>
    intro j l s hj h
    have hj2 : j < v.length := by omega
    have hi := hv _ (List.getElem_mem hj2)
    simp only [hkW]
    rw [ints_rd hj2, Int.toNat_natCast, ih (j + 1) _ _ (by omega) (prodL_lm h (hkL_lm hi).1), List.drop_eq_getElem_cons hj2]
    have ha : LM n (actW n (v.drop (j + 1)) (idL n)) := act_lm (fun x hx => hv x (List.mem_of_mem_drop hx)) (idL_lm n)
    exact (prodL_assoc h (hkL_lm hi).1 ha).1
theorem hooks_val {n : Nat} (h0 : 1 ≤ n) (hn : n ≤ 10) {v : List Nat} (hl : v.length ≤ 200) (hv : okN n v) : ∃ s, Ev (fun k => plait_Hooks.f k (n : Int) (ints v)) (actW n v (idL n), s, 0) ∧ s = (hkW n (ints v) v.length 0 (idL n) 0).2 := by
  have hw := ints_ok hv
  have g := (hooks_l0 (by omega) (by rw [ints_len]; omega) hw v.length 0 (idL n) 0 (by rw [ints_len]; omega) (idL_lm n)).1
  refine ⟨_, ?_, rfl⟩
  have e1 : (hkW n (ints v) v.length 0 (idL n) 0).1 = actW n v (idL n) := by
    rw [hkW_act hv v.length 0 (idL n) 0 (by omega) (idL_lm n), List.drop_zero]
    exact (prodL_id (act_lm hv (idL_lm n))).2.1
  rw [e1] at g
  have ho : plait_ordered.f (n : Int) (ints v) = some 0 := by
    have na : (ints v).any (fun x => decide (x < 0 ∨ (n : Int) - 2 < x)) = false := by
      rw [List.any_eq_false]
      intro x hx
      obtain ⟨y, hy, rfl⟩ := List.mem_map.1 hx
      have := hv y hy
      simp only [decide_eq_true_eq]
      omega
    unfold plait_ordered.f
    rw [if_neg (by omega), if_neg (by rw [ints_len]; omega), na]
    rfl
  refine Ev.congr (f := fun k => (plait_identity.f k (n : Int)).bind fun t340 => (plait_Hooks.l0 k (n : Int) t340 0 (ints v) ((ints v).length : Int) 0)) (fun k => ?_) (Ev.bind (identity_ev (by omega)) g)
  unfold plait_Hooks.f
  rw [ho, Option.bind_some, if_pos rfl]
theorem wordP_val {n : Nat} {d : List Int} (hd : Dia n d) : ∃ w, Wd n d w ∧ w.length ≤ 200 ∧ Ev (fun k => plait_Word.f k d) (ints w, 0) := by
  obtain ⟨w, w1, w2⟩ := word_val hd
  have a := (wd_val w1).2.2
  have b := hs_20 hd.pos hd.lim (fn d)
  exact ⟨w, w1, by omega, Ev.congr (fun k => rfl) (Ev.bind (dia_yes hd).1 (Ev.congr (fun k => by rw [if_pos rfl]) (Ev.bind w2 (Ev.now _))))⟩
end Go.Proofs.Ytjfkompfkgjdaaa.L
end
