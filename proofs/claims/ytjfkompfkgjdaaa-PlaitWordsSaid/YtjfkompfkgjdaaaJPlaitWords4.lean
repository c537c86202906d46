/- Parts of the proof of LawPlaitWords, one behind the other: PCf22 HRep PCf59 PCf60. -/
import Derived.Shelf.Strings.Repeat
import Derived.Laws.RangeAny
import Derived.Laws.RangeString
import Derived.Test.YtjfkompfkgjdaaaJPlaitWords3
section
namespace Go.Proofs.Ytjfkompfkgjdaaa.PC
open Go.RowKit Go.Proofs.YtjfkompfkgjdaaaW.PrintWords Go.Proofs.YtjfkompfkgjdaaaW.PrintLast Go.Proofs.YtjfkompfkgjdaaaW.PrintMore
attribute [local go_sem] max2_int min2_int max_two min_two max_three min_three max_four min_four   -- for this text's walks alone
set_option linter.unusedVariables false
set_option linter.unusedSimpArgs false
/-! ### pomaderef07_Word: function 22 -/
mutual
def pomaderef07_Word.l0 : Nat → List Int → Int → List Bool → List (S71) → Int → Option (List Int × Int)
 | 0, _, _, _, _, _ => none
 | k + 1, x0, x5, x6, x7, x8 => if 0 ≤ x8 then (if x8 < (x7.length : Int) then ((pomaderef07_same.f k ((rd_T71 x7 x8).f0) x0).bind fun t410 => (if t410 = true then (some ((rd_T71 x7 x8).f1, 0)) else (pomaderef07_Word.l1 k x0 x5 x6 x7 x8 0 ((rd_T71 x7 x8).f0) ((rd_T71 x7 x8).f1)))) else (none)) else (none)
def pomaderef07_Word.l1 : Nat → List Int → Int → List Bool → List (S71) → Int → Int → List Int → List Int → Option (List Int × Int)
 | 0, _, _, _, _, _, _, _, _ => none
 | k + 1, x0, x5, x6, x7, x8, x10, x410000, x410001 => if (wrap64 (x10 + 1)) < x5 then ((pomaderef07_Hook.f k x5 x10).bind fun t411 => ((pomaderef07_product.f k x410000 t411).bind fun bt414 => ((pomaderef07_place.f k bt414.1).bind fun t418 => (if 0 ≤ t418 then (if t418 < (x6.length : Int) then (if rdOf false x6 t418 = true then (pomaderef07_Word.l1 k x0 x5 x6 x7 x8 (wrap64 (x10 + 1)) x410000 x410001) else ((pomaderef07_place.f k bt414.1).bind fun t420 => (if 0 ≤ t420 then (if t420 < (x6.length : Int) then ((strings_Builder_Len.f x410001 x10).bind fun t422 => (if x7.length < 2932031007402 then (pomaderef07_Word.l1 k x0 x5 (x6.set (t420 : Int).toNat true) (x7 ++ [(⟨bt414.1, t422⟩ : S71)]) x8 (wrap64 (x10 + 1)) x410000 x410001) else (none))) else (none)) else (none)))) else (none)) else (none))))) else (pomaderef07_Word.l0 k x0 x5 x6 x7 (wrap64 (x8 + 1)))
end
def pomaderef07_Word.f (k : Nat) (l0 : List Int) : Option (List Int × Int) := (pomaderef07_Diagram.f k l0).bind fun t395 => (if t395 = 0 then (if 0 ≤ (wrap64 (2 * (wrap64 ((l0.length : Int) / 2)))) then (if 0 ≤ (shl .i64 1 (wrap64 (2 * (wrap64 ((l0.length : Int) / 2))))) then (if (shl .i64 1 (wrap64 (2 * (wrap64 ((l0.length : Int) / 2)))) : Int).toNat ≤ 281474976710656 then ((some (List.replicate (shl .i64 1 (wrap64 (2 * (wrap64 ((l0.length : Int) / 2)))) : Int).toNat false : List Bool)).bind fun y396 => ((pomaderef07_Identity.f k (wrap64 ((l0.length : Int) / 2))).bind fun t399 => ((some (([(⟨t399, ([] : List Int)⟩ : S71)] : List (S71)) : List (S71))).bind fun y402 => (if 0 < (y402.length : Int) then ((pomaderef07_place.f k ((rd_T71 y402 0).f0)).bind fun t406 => (if 0 ≤ t406 then (if t406 < (y396.length : Int) then (pomaderef07_Word.l0 k l0 (wrap64 ((l0.length : Int) / 2)) (y396.set (t406 : Int).toNat true) y402 0) else (none)) else (none))) else (none))))) else (none)) else (none)) else (none)) else (some (([] : List Int), t395)))
theorem pomaderef07_Word.mono_l : ∀ k, (∀ y0 y1 y2 y3 y4, LeO (pomaderef07_Word.l0 k y0 y1 y2 y3 y4) (pomaderef07_Word.l0 (k + 1) y0 y1 y2 y3 y4)) ∧ (∀ y0 y1 y2 y3 y4 y5 y6 y7, LeO (pomaderef07_Word.l1 k y0 y1 y2 y3 y4 y5 y6 y7) (pomaderef07_Word.l1 (k + 1) y0 y1 y2 y3 y4 y5 y6 y7))
 | 0 => ⟨fun _ _ _ _ _ r h => by simp [pomaderef07_Word.l0] at h, fun _ _ _ _ _ _ _ _ r h => by simp [pomaderef07_Word.l1] at h⟩
 | k + 1 => by
  obtain ⟨ih0, ih1⟩ := pomaderef07_Word.mono_l k
  refine ⟨?_, ?_⟩
  ·intro y0 y1 y2 y3 y4
   unfold pomaderef07_Word.l0
   repeat' first
   | (with_reducible exact ih0 _ _ _ _ _)
   | (with_reducible exact ih1 _ _ _ _ _ _ _ _)
   | (with_reducible exact pomaderef07_Diagram.mono _ _)
   | (with_reducible exact pomaderef07_Hook.mono _ _ _)
   | (with_reducible exact pomaderef07_Identity.mono _ _)
   | (with_reducible exact pomaderef07_place.mono _ _)
   | (with_reducible exact pomaderef07_product.mono _ _ _)
   | (with_reducible exact pomaderef07_same.mono _ _ _)
   | (with_reducible exact LeO.refl _)
   | (with_reducible exact LeO.none _)
   | (with_reducible refine LeO.ite ?_ ?_)
   | (with_reducible refine LeO.bind ?_ (fun _ => ?_))
   | exact ih0 _ _ _ _ _
   | exact ih1 _ _ _ _ _ _ _ _
   | exact pomaderef07_Diagram.mono _ _
   | exact pomaderef07_Hook.mono _ _ _
   | exact pomaderef07_Identity.mono _ _
   | exact pomaderef07_place.mono _ _
   | exact pomaderef07_product.mono _ _ _
   | exact pomaderef07_same.mono _ _ _
   | exact LeO.none _
   | refine LeO.ite ?_ ?_
   | refine LeO.bind ?_ (fun _ => ?_)
  ·intro y0 y1 y2 y3 y4 y5 y6 y7
   unfold pomaderef07_Word.l1
   repeat' first
   | (with_reducible exact ih0 _ _ _ _ _)
   | (with_reducible exact ih1 _ _ _ _ _ _ _ _)
   | (with_reducible exact pomaderef07_Diagram.mono _ _)
   | (with_reducible exact pomaderef07_Hook.mono _ _ _)
   | (with_reducible exact pomaderef07_Identity.mono _ _)
   | (with_reducible exact pomaderef07_place.mono _ _)
   | (with_reducible exact pomaderef07_product.mono _ _ _)
   | (with_reducible exact pomaderef07_same.mono _ _ _)
   | (with_reducible exact LeO.refl _)
   | (with_reducible exact LeO.none _)
   | (with_reducible refine LeO.ite ?_ ?_)
   | (with_reducible refine LeO.bind ?_ (fun _ => ?_))
   | exact ih0 _ _ _ _ _
   | exact ih1 _ _ _ _ _ _ _ _
   | exact pomaderef07_Diagram.mono _ _
   | exact pomaderef07_Hook.mono _ _ _
   | exact pomaderef07_Identity.mono _ _
   | exact pomaderef07_place.mono _ _
   | exact pomaderef07_product.mono _ _ _
   | exact pomaderef07_same.mono _ _ _
   | exact LeO.none _
   | refine LeO.ite ?_ ?_
   | refine LeO.bind ?_ (fun _ => ?_)
theorem pomaderef07_Word.mono : ∀ a0 k, LeO (pomaderef07_Word.f k a0) (pomaderef07_Word.f (k + 1) a0) := by
 intro a0 k
 obtain ⟨ih0, ih1⟩ := pomaderef07_Word.mono_l k
 unfold pomaderef07_Word.f
 repeat' first
   | (with_reducible exact ih0 _ _ _ _ _)
   | (with_reducible exact ih1 _ _ _ _ _ _ _ _)
   | (with_reducible exact pomaderef07_Diagram.mono _ _)
   | (with_reducible exact pomaderef07_Hook.mono _ _ _)
   | (with_reducible exact pomaderef07_Identity.mono _ _)
   | (with_reducible exact pomaderef07_place.mono _ _)
   | (with_reducible exact pomaderef07_product.mono _ _ _)
   | (with_reducible exact pomaderef07_same.mono _ _ _)
   | (with_reducible exact LeO.refl _)
   | (with_reducible exact LeO.none _)
   | (with_reducible refine LeO.ite ?_ ?_)
   | (with_reducible refine LeO.bind ?_ (fun _ => ?_))
   | exact ih0 _ _ _ _ _
   | exact ih1 _ _ _ _ _ _ _ _
   | exact pomaderef07_Diagram.mono _ _
   | exact pomaderef07_Hook.mono _ _ _
   | exact pomaderef07_Identity.mono _ _
   | exact pomaderef07_place.mono _ _
   | exact pomaderef07_product.mono _ _ _
   | exact pomaderef07_same.mono _ _ _
   | exact LeO.none _
   | refine LeO.ite ?_ ?_
   | refine LeO.bind ?_ (fun _ => ?_)
def pomaderef07_Word.T16 : Bool × List (List Nat × List Nat) := (true, [([], []), ([0], [0]), ([], []), ([], []), ([2, 3], [2, 3]), ([1, 4, 4], [1, 4]), ([5], [5]), ([6], [6]), ([6], [6]), ([7, 5, 0, 1, 2, 3, 4, 5, 6, 7], [7]), ([8, 9, 0, 1, 2, 3, 4, 5, 6, 7, 8, 9], [8])])
def pomaderef07_Word.B16 : List Nat := [0, 1, 0, 0, 12, 31, 63, 127, 127, 255, 1023]
theorem pomaderef07_Word.tab16 : rtab .any (opsOf Try.f22 16) = pomaderef07_Word.T16 := by kernel_rfl
theorem pomaderef07_Word.bits16 : waitsOk pomaderef07_Word.T16.2 pomaderef07_Word.B16 = true := by kernel_rfl
set_option maxHeartbeats 8000000 in
set_option maxRecDepth 100000 in
theorem pomaderef07_Word.calls (k : Nat) (A0 : Option Addr) (c0 : Nat) (l0 : List Int) (r1 : List Int) (r2 : Int) (w : World) (hr0 : Kd.C (Kd.int .i64) w A0 l0.length l0) (hc0 : l0.length ≤ c0) (h : pomaderef07_Word.f k l0 = some (r1, r2)) :
  Calls Try.prog 22 #[.slice A0 l0.length c0] w fun e w' => ∃ v0_ : Value, e = .returned (.tuple #[v0_, .int .i64 r2]) ∧ Kd.V (Kd.int .i64) 3 w' w.heap.size (fun k_ => (w.heap.size ≤ k_)) v0_ r1 ∧ Below w.heap.size w w' := by
 have hu71 := Try.underlying71
 have HR0 := Aside0.mk hr0
 have HC0 := Aside0.mk hc0
 clear hr0 hc0
 have HB := Aside0.mk (Below.refl w.heap.size w)
 have H : ((pomaderef07_Diagram.f k l0).bind fun t395 => (if t395 = 0 then (if 0 ≤ (wrap64 (2 * (wrap64 ((l0.length : Int) / 2)))) then (if 0 ≤ (shl .i64 1 (wrap64 (2 * (wrap64 ((l0.length : Int) / 2))))) then (if (shl .i64 1 (wrap64 (2 * (wrap64 ((l0.length : Int) / 2)))) : Int).toNat ≤ 281474976710656 then ((some (List.replicate (shl .i64 1 (wrap64 (2 * (wrap64 ((l0.length : Int) / 2)))) : Int).toNat false : List Bool)).bind fun y396 => ((pomaderef07_Identity.f k (wrap64 ((l0.length : Int) / 2))).bind fun t399 => ((some (([(⟨t399, ([] : List Int)⟩ : S71)] : List (S71)) : List (S71))).bind fun y402 => (if 0 < (y402.length : Int) then ((pomaderef07_place.f k ((rd_T71 y402 0).f0)).bind fun t406 => (if 0 ≤ t406 then (if t406 < (y396.length : Int) then (pomaderef07_Word.l0 k l0 (wrap64 ((l0.length : Int) / 2)) (y396.set (t406 : Int).toNat true) y402 0) else (none)) else (none))) else (none))))) else (none)) else (none)) else (none)) else (some (([] : List Int), t395)))) = some (r1, r2) := h
 clear h
 replace H := Option.bind_eq_some_iff.mp H
 obtain ⟨t395, A20, H⟩ := H
 replace H : (if t395 = 0 then (if 0 ≤ (wrap64 (2 * (wrap64 ((l0.length : Int) / 2)))) then (if 0 ≤ (shl .i64 1 (wrap64 (2 * (wrap64 ((l0.length : Int) / 2))))) then (if (shl .i64 1 (wrap64 (2 * (wrap64 ((l0.length : Int) / 2)))) : Int).toNat ≤ 281474976710656 then ((some (List.replicate (shl .i64 1 (wrap64 (2 * (wrap64 ((l0.length : Int) / 2)))) : Int).toNat false : List Bool)).bind fun y396 => ((pomaderef07_Identity.f k (wrap64 ((l0.length : Int) / 2))).bind fun t399 => ((some (([(⟨t399, ([] : List Int)⟩ : S71)] : List (S71)) : List (S71))).bind fun y402 => (if 0 < (y402.length : Int) then ((pomaderef07_place.f k ((rd_T71 y402 0).f0)).bind fun t406 => (if 0 ≤ t406 then (if t406 < (y396.length : Int) then (pomaderef07_Word.l0 k l0 (wrap64 ((l0.length : Int) / 2)) (y396.set (t406 : Int).toNat true) y402 0) else (none)) else (none))) else (none))))) else (none)) else (none)) else (none)) else (some (([] : List Int), t395))) = some (r1, r2) := H
 have A2 := Aside0.mk A20
 clear A20
 by_cases c3 : t395 = 0
 ·rw [if_pos c3] at H
  have c3b0 : (t395 == 0) = true := beq_iff_eq.mpr c3
  have c3b1 : (t395 != 0) = false := bne_eq_false_iff_eq.mpr c3
  clear c3
  obtain ⟨ji4, hji4⟩ : ∃ j_ : Int, (wrap64 (2 * (wrap64 ((l0.length : Int) / 2)))) = j_ := ⟨_, rfl⟩
  replace H : (if 0 ≤ (ji4) then (if 0 ≤ (shl .i64 1 (ji4)) then (if (shl .i64 1 (ji4) : Int).toNat ≤ 281474976710656 then ((some (List.replicate (shl .i64 1 (ji4) : Int).toNat false : List Bool)).bind fun y396 => ((pomaderef07_Identity.f k (wrap64 ((l0.length : Int) / 2))).bind fun t399 => ((some (([(⟨t399, ([] : List Int)⟩ : S71)] : List (S71)) : List (S71))).bind fun y402 => (if 0 < (y402.length : Int) then ((pomaderef07_place.f k ((rd_T71 y402 0).f0)).bind fun t406 => (if 0 ≤ t406 then (if t406 < (y396.length : Int) then (pomaderef07_Word.l0 k l0 (wrap64 ((l0.length : Int) / 2)) (y396.set (t406 : Int).toNat true) y402 0) else (none)) else (none))) else (none))))) else (none)) else (none)) else (none)) = some (r1, r2) := by first | (rw [hji4] at H; exact H) | (simp only [hji4] at H ⊢; exact H)
  (try rw [hji4] at A2)
  have hji4w : (IntKind.i64.wrap (2 * (wrap64 ((l0.length : Int) / 2)))) = ji4 := (i64_w _).trans hji4
  by_cases c5 : 0 ≤ (ji4)
  ·rw [if_pos c5] at H
   have c5b0 := eq_true c5
   have c5b1 : decide (0 ≤ (ji4)) = true := decide_eq_true c5
   clear c5
   obtain ⟨ji6, hji6⟩ : ∃ j_ : Int, (shl .i64 1 (ji4)) = j_ := ⟨_, rfl⟩
   replace H : (if 0 ≤ (ji6) then (if (ji6 : Int).toNat ≤ 281474976710656 then ((some (List.replicate (ji6 : Int).toNat false : List Bool)).bind fun y396 => ((pomaderef07_Identity.f k (wrap64 ((l0.length : Int) / 2))).bind fun t399 => ((some (([(⟨t399, ([] : List Int)⟩ : S71)] : List (S71)) : List (S71))).bind fun y402 => (if 0 < (y402.length : Int) then ((pomaderef07_place.f k ((rd_T71 y402 0).f0)).bind fun t406 => (if 0 ≤ t406 then (if t406 < (y396.length : Int) then (pomaderef07_Word.l0 k l0 (wrap64 ((l0.length : Int) / 2)) (y396.set (t406 : Int).toNat true) y402 0) else (none)) else (none))) else (none))))) else (none)) else (none)) = some (r1, r2) := by first | (rw [hji6] at H; exact H) | (simp only [hji6] at H ⊢; exact H)
   (try rw [hji6] at A2)
   have hji6_ : (IntKind.i64.wrap (1 * 2 ^ min (ji4).toNat 64)) = ji6 := hji6
   have hji6z : (ji4) ≤ 64 → (IntKind.i64.wrap (1 * 2 ^ (ji4).toNat)) = ji6 := shl_small hji6
   have hji6u : (IntKind.i64.wrap (2 ^ min (ji4).toNat 64)) = ji6 := by have h_ := hji6_; rw [Int.one_mul] at h_; exact h_
   have hji6v : (ji4) ≤ 64 → (IntKind.i64.wrap (2 ^ (ji4).toNat)) = ji6 := fun hle_ => by have h_ := hji6z hle_; rw [Int.one_mul] at h_; exact h_
   have hji6y : (wrap64 (1 * 2 ^ min (ji4).toNat 64)) = ji6 := (i64_w _).symm.trans hji6_
   have hji6x : (ji4) ≤ 64 → (wrap64 (1 * 2 ^ (ji4).toNat)) = ji6 := fun h_ => (i64_w _).symm.trans (hji6z h_)
   by_cases c7 : 0 ≤ (ji6)
   ·rw [if_pos c7] at H
    have c7b0 := eq_true c7
    have c7b1 : decide (0 ≤ (ji6)) = true := decide_eq_true c7
    clear c7
    by_cases c8 : (ji6 : Int).toNat ≤ 281474976710656
    ·rw [if_pos c8] at H
     have c8b0 := eq_true c8
     have c8b1 : decide ((ji6 : Int).toNat ≤ 281474976710656) = true := decide_eq_true c8
     clear c8
     obtain ⟨y396, hy396⟩ : ∃ y_ : List Bool, y_ = (List.replicate (ji6 : Int).toNat false) := ⟨_, rfl⟩
     replace H : ((pomaderef07_Identity.f k (wrap64 ((l0.length : Int) / 2))).bind fun t399 => ((some (([(⟨t399, ([] : List Int)⟩ : S71)] : List (S71)) : List (S71))).bind fun y402 => (if 0 < (y402.length : Int) then ((pomaderef07_place.f k ((rd_T71 y402 0).f0)).bind fun t406 => (if 0 ≤ t406 then (if t406 < (y396.length : Int) then (pomaderef07_Word.l0 k l0 (wrap64 ((l0.length : Int) / 2)) (y396.set (t406 : Int).toNat true) y402 0) else (none)) else (none))) else (none)))) = some (r1, r2) := by first | (rw [hy396]; with_reducible exact H) | (have H2_ := (Option.bind_some _ _).symm.trans H; rw [hy396]; with_reducible exact H2_) | (have H2_ := (Option.bind_some _ _).symm.trans H; with_reducible exact H2_) | with_reducible exact H | (rw [hy396]; exact H) | exact H
     have Ny396 := Aside0.mk hy396
     clear hy396
     replace H := Option.bind_eq_some_iff.mp H
     obtain ⟨t399, A90, H⟩ := H
     replace H : ((some (([(⟨t399, ([] : List Int)⟩ : S71)] : List (S71)) : List (S71))).bind fun y402 => (if 0 < (y402.length : Int) then ((pomaderef07_place.f k ((rd_T71 y402 0).f0)).bind fun t406 => (if 0 ≤ t406 then (if t406 < (y396.length : Int) then (pomaderef07_Word.l0 k l0 (wrap64 ((l0.length : Int) / 2)) (y396.set (t406 : Int).toNat true) y402 0) else (none)) else (none))) else (none))) = some (r1, r2) := H
     have A9 := Aside0.mk A90
     clear A90
     obtain ⟨y402, hy402⟩ : ∃ y_ : List (S71), y_ = (([(⟨t399, ([] : List Int)⟩ : S71)] : List (S71))) := ⟨_, rfl⟩
     replace H : (if 0 < (y402.length : Int) then ((pomaderef07_place.f k ((rd_T71 y402 0).f0)).bind fun t406 => (if 0 ≤ t406 then (if t406 < (y396.length : Int) then (pomaderef07_Word.l0 k l0 (wrap64 ((l0.length : Int) / 2)) (y396.set (t406 : Int).toNat true) y402 0) else (none)) else (none))) else (none)) = some (r1, r2) := by first | (rw [hy402]; with_reducible exact H) | (have H2_ := (Option.bind_some _ _).symm.trans H; rw [hy402]; with_reducible exact H2_) | (have H2_ := (Option.bind_some _ _).symm.trans H; with_reducible exact H2_) | with_reducible exact H | (rw [hy402]; exact H) | exact H
     have Ny402 := Aside0.mk hy402
     clear hy402
     by_cases c10 : 0 < (y402.length : Int)
     ·rw [if_pos c10] at H
      have c10b0 : decide (0 < (y402.length : Int)) = true := decide_eq_true c10
      have c10b1 : decide (0 < y402.length) = true := decide_eq_true (by omega)
      clear c10
      replace H := Option.bind_eq_some_iff.mp H
      obtain ⟨t406, A110, H⟩ := H
      replace H : (if 0 ≤ t406 then (if t406 < (y396.length : Int) then (pomaderef07_Word.l0 k l0 (wrap64 ((l0.length : Int) / 2)) (y396.set (t406 : Int).toNat true) y402 0) else (none)) else (none)) = some (r1, r2) := H
      have A11 := Aside0.mk A110
      clear A110
      by_cases c12 : 0 ≤ t406
      ·rw [if_pos c12] at H
       have c12b0 : decide (0 ≤ t406) = true := decide_eq_true c12
       clear c12
       by_cases c13 : t406 < (y396.length : Int)
       ·rw [if_pos c13] at H
        have c13b0 : decide (t406 < (y396.length : Int)) = true := decide_eq_true c13
        clear c13
        obtain ⟨y407, hy407⟩ : ∃ y_ : List Bool, y_ = (y396.set (t406 : Int).toNat true) := ⟨_, rfl⟩
        replace H : (pomaderef07_Word.l0 k l0 (wrap64 ((l0.length : Int) / 2)) y407 y402 0) = some (r1, r2) := by first | (rw [hy407]; with_reducible exact H) | (have H2_ := (Option.bind_some _ _).symm.trans H; rw [hy407]; with_reducible exact H2_) | (have H2_ := (Option.bind_some _ _).symm.trans H; with_reducible exact H2_) | with_reducible exact H | (rw [hy407]; exact H) | exact H
        have Ny407 := Aside0.mk hy407
        clear hy407
        have H' := Aside0.mk H
        clear H
        go_enter Try.func22, Try.ntmps22
        go_wp2_with (first | ((with_reducible refine gate_callee (f := 19) rfl ?_); refine goesL_ (some 14) rfl rfl Try.func19 (by kernel_rfl) rfl #[.slice A0 l0.length c0] rfl (by (try simp only [List.map_toArray, List.map_cons, List.map_nil]); first | done | rfl | (simp only [List.length_drop, List.length_take]; rfl)) ?_; (with_reducible refine (pomaderef07_Diagram.calls k _ _ l0 t395 _ ?side1 ?side2 A2.out).mono ?_); (case side1 => repeat (first | exact HR0.out | (with_reducible refine Kd.C_alloc ?_ _) | (with_reducible refine Kd.C_drewN ?_ _) | (with_reducible refine Kd.C_drew ?_))); (case side2 => exact HC0.out); rintro e w' ⟨rfl, ⟨nd, rfl⟩⟩; refine ⟨_, rfl, ?_⟩) | ((with_reducible refine gate_dst (N := 24) rfl ?_); refine Kd.R_make Kd.bool _ 4 rfl (N := 24) rfl 69 _ _ rfl ji6 rfl rfl Try.underlying69 (.bool false) 1 info4 rfl (by decide) (by omega) false (ok := fun _ => True) (okp := fun _ => True) rfl (fun _ hk => hk) trivial (of_decide_eq_true (by first | (with_reducible assumption) | assumption)) (Nat.le_trans (Nat.mul_le_mul_right _ (of_decide_eq_true (by first | (with_reducible assumption) | assumption) : ji6.toNat ≤ 281474976710656)) (by omega)) (Below.refl _ _) (Nat.le_refl _) ?_; intro v397 w15 ho16 hb hg_ hnew_; clear hg_ hnew_; (first | rw [← Ny396.out] at ho16 | (simp only [Int.reduceToNat] at ho16; rw [← Ny396.out] at ho16)); have n0_ := Aside0.mk (Kd.R_lower (Kd.R_newM (M := fun k_ => (w.heap.size ≤ k_)) ho16 (below_size (by repeat (first | (with_reducible first | exact HB.out | apply below_alloc | apply pw_below_drewN | apply below_drew1) | exact HB.out))) (fun k_ h_ => h_)) (below_size (by repeat (first | (with_reducible first | exact HB.out | apply below_alloc | apply pw_below_drewN | apply below_drew1) | exact HB.out)))); have n1_ := Aside0.mk (below_step (by repeat (first | (with_reducible first | exact HB.out | apply below_alloc | apply pw_below_drewN | apply below_drew1) | exact HB.out)) hb); clear HB; have HO398 := n0_; have HB := n1_; clear n0_ n1_; clear hb ho16) | ((with_reducible refine gate_callee (f := 28) rfl ?_); refine goesL_ (some 26) rfl rfl Try.func28 (by kernel_rfl) rfl #[.int .i64 (wrap64 ((l0.length : Int) / 2))] rfl (by (try simp only [List.map_toArray, List.map_cons, List.map_nil]); first | done | rfl | (simp only [List.length_drop, List.length_take]; rfl)) ?_; (with_reducible refine (pomaderef07_Identity.calls k (wrap64 ((l0.length : Int) / 2)) t399 _ A9.out).mono ?_); rintro e w17 ⟨v400, rfl, ho0, hb⟩; refine ⟨_, rfl, ?_⟩; have n0_ := Aside0.mk (Kd.R_below (by (with_reducible repeat (first | apply Kd.R_alloc | apply Kd.R_drewN | apply Kd.R_drew)); exact HO398.out) hb); have n1_ := Aside0.mk (Kd.R_lower (Kd.R_newM (M := fun k_ => (w.heap.size ≤ k_)) ho0 (below_size (by repeat (first | (with_reducible first | exact HB.out | apply below_alloc | apply pw_below_drewN | apply below_drew1) | exact HB.out))) (fun k_ h_ => h_)) (below_size (by repeat (first | (with_reducible first | exact HB.out | apply below_alloc | apply pw_below_drewN | apply below_drew1) | exact HB.out)))); have n2_ := Aside0.mk (below_step (by repeat (first | (with_reducible first | exact HB.out | apply below_alloc | apply pw_below_drewN | apply below_drew1) | exact HB.out)) hb); clear HO398; clear HB; have HO398 := n0_; have HO401 := n1_; have HB := n2_; clear n0_ n1_ n2_; (try clear hb); (try clear hb2); (try clear hk); (try clear hi); (try clear ho0); obtain ⟨Ao18, co18, eo18⟩ := Kd.R_slice HO401.out; subst eo18) | ((with_reducible refine gate_dst (N := 28) rfl ?_); refine Kd.N_lit k71 _ 71 ?hg (N' := 28) ?hd (xs := ([(⟨t399, ([] : List Int)⟩ : S71)] : List (S71))) (inner := [.slice Ao18 t399.length co18, .slice none 0 0]) (ok := (fun k_ => (w.heap.size ≤ k_) ∧ some k_ ≠ (v397 : Value).ownBlock)) (okp := (fun k_ => (w.heap.size ≤ k_) ∧ some k_ ≠ (v397 : Value).ownBlock)) ?hr ?hp (fun _ hk => hk) ((show ∀ k_, w17.heap.size ≤ k_ → (fun k_ => (w.heap.size ≤ k_) ∧ some k_ ≠ (v397 : Value).ownBlock) k_ from fun k_ hk => ⟨(Nat.le_trans (below_size (by repeat (first | (with_reducible first | exact HB.out | apply below_alloc | apply pw_below_drewN | apply below_drew1) | exact HB.out))) hk), Kd.fresh' (Kd.R_lt (by (with_reducible repeat (first | apply Kd.R_alloc | apply Kd.R_drewN | apply Kd.R_drew)); exact HO398.out)) k_ hk⟩) _ (Nat.le_refl _)) (Below.refl _ _) (Nat.le_refl _) (by simp) ?_; (case hd => rfl); (case hg => rfl); (case hr => first | (go_simp; done) | (go_simp; rfl)); (case hp => exact (Reps.c2 (show Kd.FK k71 _ _ (⟨t399, ([] : List Int)⟩ : S71) [.slice Ao18 t399.length co18, .slice none 0 0] from (k71_mkF _ _ (⟨t399, ([] : List Int)⟩ : S71) (Kd.R_reads' (Kd.R_mono (ok' := (fun k_ => (w.heap.size ≤ k_) ∧ some k_ ≠ (v397 : Value).ownBlock)) (Kd.R_apart' (HO401.out) (Kd.R_typed HO398.out) (by decide)) (fun k_ hk => ⟨hk.1.1, hk.2⟩))).2.1 (Kd.R_F (Kd.R_mono (ok' := (fun k_ => (w.heap.size ≤ k_) ∧ some k_ ≠ (v397 : Value).ownBlock)) (Kd.R_apart' (HO401.out) (Kd.R_typed HO398.out) (by decide)) (fun k_ hk => ⟨hk.1.1, hk.2⟩))) (Nat.le_refl _) (Kd.F_nil _ _ _))) (Reps.none _ _))); intro v403 w19 ho20 hb hg_ hnew_; clear hg_ hnew_; (first | rw [← Ny402.out] at ho20 | (simp only [Int.reduceToNat] at ho20; rw [← Ny402.out] at ho20)); have n0_ := Aside0.mk (Kd.R_below (by (with_reducible repeat (first | apply Kd.R_alloc | apply Kd.R_drewN | apply Kd.R_drew)); exact HO398.out) hb); have n1_ := Aside0.mk (Kd.N_lower ho20 (below_size (by repeat (first | (with_reducible first | exact HB.out | apply below_alloc | apply pw_below_drewN | apply below_drew1) | exact HB.out)))); have n2_ := Aside0.mk (below_step (by repeat (first | (with_reducible first | exact HB.out | apply below_alloc | apply pw_below_drewN | apply below_drew1) | exact HB.out)) hb); clear HO398; clear HB; clear HO401; have HO398 := n0_; have HO404 := n1_; have HB := n2_; clear n0_ n1_ n2_; clear hb ho20; obtain ⟨Ao21, co21, eo21⟩ := Kd.N_slice HO404.out; subst eo21; have p405 : 0 ≤ (0 : Int) := (by omega); have q405 : 0 < (y402.length : Int) := of_decide_eq_true (by first | (with_reducible assumption) | assumption); obtain ⟨ad405, A405_0, c405_0, A405_1, c405_1, e405, hx405_0, hx405_1, hl405_0, hi405_0, hl405_1, hi405_1⟩ := at_T71 (Kd.N_reads' HO404.out).2.2 0 p405 q405; cases e405; obtain ⟨ce405, hce405, hMe405, hcc405⟩ := Kd.N_get HO404.out z71 0 p405 (by first | exact q405 | exact of_decide_eq_true (by first | (with_reducible assumption) | assumption) | (have e_ := (Kd.N_reads' HO404.out).1; omega)); obtain ⟨ua405_0, uc405_0, ua405_1, uc405_1, rfl, ul405_0, ge405_0, ul405_1, ge405_1⟩ := k71_openF hMe405; have hv405_0 := hcc405 0 _ rfl; rw [Nat.add_zero] at hv405_0; replace hv405_0 := Option.some.inj (hv405_0.symm.trans hx405_0); injection hv405_0 with hva_ hvn_ hvc_; rw [hva_] at ge405_0; rw [hvc_] at ul405_0; have HL405_0 := Aside0.mk (show Kd.V (Kd.int .i64) 3 _ w.heap.size _ _ ((rd_T71 y402 0).f0) from Kd.V_mk ul405_0 ge405_0); clear hva_ hvn_ hvc_ ge405_0 ul405_0; have hv405_1 := hcc405 1 _ rfl; rw [add_field _ _ 1 (by omega)] at hv405_1; replace hv405_1 := Option.some.inj (hv405_1.symm.trans hx405_1); injection hv405_1 with hva_ hvn_ hvc_; rw [hva_] at ge405_1; rw [hvc_] at ul405_1; have HL405_1 := Aside0.mk (show Kd.V (Kd.int .i64) 3 _ w.heap.size _ _ ((rd_T71 y402 0).f1) from Kd.V_mk ul405_1 ge405_1); clear hva_ hvn_ hvc_ ge405_1 ul405_1; clear hcc405 hce405; have qi405 : (0 < y402.length) = True := eq_true (by omega); (try rw [show ((0 : Int)).toNat = 0 from rfl] at hx405_0); (try rw [show 0 * 2 = 0 from rfl] at hx405_0); (try rw [Addr.add_zero'] at hx405_0); (try rw [show ((0 : Int)).toNat = 0 from rfl] at hx405_1); (try rw [show 0 * 2 = 0 from rfl] at hx405_1); (try rw [Addr.add_zero'] at hx405_1); have HR405_0 := Aside0.mk hi405_0; have HC405_0 := Aside0.mk hl405_0; clear hi405_0 hl405_0; have HR405_1 := Aside0.mk hi405_1; have HC405_1 := Aside0.mk hl405_1; clear hi405_1 hl405_1; replace p405 := eq_true p405; replace q405 := eq_true q405) | ((with_reducible refine gate_callee (f := 56) rfl ?_); refine goesL_ (some 34) rfl rfl Try.func56 (by kernel_rfl) rfl #[.slice A405_0 ((rd_T71 y402 0).f0).length c405_0] rfl (by (try simp only [List.map_toArray, List.map_cons, List.map_nil]); first | done | rfl | (simp only [List.length_drop, List.length_take]; rfl)) ?_; (with_reducible refine (pomaderef07_place.calls k _ _ ((rd_T71 y402 0).f0) t406 _ ?side1 ?side2 A11.out).mono ?_); (case side1 => repeat (first | exact (by repeat (first | (with_reducible exact HR405_0.out) | (with_reducible refine Kd.C_alloc ?_ _) | (with_reducible refine Kd.C_drewN ?_ _) | (with_reducible refine Kd.C_drew ?_) | exact HR405_0.out)) | (with_reducible refine Kd.C_alloc ?_ _) | (with_reducible refine Kd.C_drewN ?_ _) | (with_reducible refine Kd.C_drew ?_))); (case side2 => exact HC405_0.out); rintro e w' ⟨rfl, ⟨nd, rfl⟩⟩; refine ⟨_, rfl, ?_⟩; (try (rw [drewN_self w19]; generalize hq_ : World.drewN w19 _ = w19; have n0_ : Aside0 (Kd.V (Kd.int .i64) 3 w19 w.heap.size (fun k_ => (w.heap.size ≤ k_) ∧ some k_ ≠ (v397 : Value).ownBlock ∧ some k_ ≠ (.slice (some ad405) y402.length co21 : Value).ownBlock) (.slice A405_0 ((rd_T71 y402 0).f0).length c405_0) ((rd_T71 y402 0).f0)) := ⟨by rw [← hq_]; exact (by (with_reducible repeat (first | apply Kd.V_alloc | apply Kd.V_drewN | apply Kd.V_drew)); exact Kd.V_mono HL405_0.out (fun _ hk => ⟨hk.1.1, ⟨hk.1.2, hk.2⟩⟩))⟩; have n1_ : Aside0 (Kd.V (Kd.int .i64) 3 w19 w.heap.size (fun k_ => (w.heap.size ≤ k_) ∧ some k_ ≠ (v397 : Value).ownBlock ∧ some k_ ≠ (.slice (some ad405) y402.length co21 : Value).ownBlock) (.slice A405_1 ((rd_T71 y402 0).f1).length c405_1) ((rd_T71 y402 0).f1)) := ⟨by rw [← hq_]; exact (by (with_reducible repeat (first | apply Kd.V_alloc | apply Kd.V_drewN | apply Kd.V_drew)); exact Kd.V_mono HL405_1.out (fun _ hk => ⟨hk.1.1, ⟨hk.1.2, hk.2⟩⟩))⟩; have n2_ : Aside0 (Kd.R Kd.bool 4 w19 w.heap.size (fun k_ => (w.heap.size ≤ k_)) v397 y396) := ⟨by rw [← hq_]; exact (by (with_reducible repeat (first | apply Kd.R_alloc | apply Kd.R_drewN | apply Kd.R_drew)); (first | exact Kd.R_mono HO398.out (fun _ hk => hk.1) | exact HO398.out))⟩; have n3_ : Aside0 (Kd.N k71 71 w19 w.heap.size (fun k_ => (w.heap.size ≤ k_) ∧ some k_ ≠ (v397 : Value).ownBlock) (.slice (some ad405) y402.length co21) y402) := ⟨by rw [← hq_]; exact (by (with_reducible repeat (first | apply Kd.N_alloc | apply Kd.N_drewN | apply Kd.N_drew)); exact HO404.out)⟩; have n4_ : Aside0 (Below w.heap.size w w19) := ⟨by rw [← hq_]; exact (by repeat (first | (with_reducible first | exact HB.out | apply below_alloc | apply pw_below_drewN | apply below_drew1) | exact HB.out))⟩; have n5_ : Aside0 (Kd.C (Kd.int .i64) w19 A405_0 ((rd_T71 y402 0).f0).length ((rd_T71 y402 0).f0)) := ⟨by rw [← hq_]; exact (by repeat (first | (with_reducible exact HR405_0.out) | (with_reducible refine Kd.C_alloc ?_ _) | (with_reducible refine Kd.C_drewN ?_ _) | (with_reducible refine Kd.C_drew ?_) | exact HR405_0.out))⟩; have n6_ : Aside0 (Kd.C (Kd.int .i64) w19 A405_1 ((rd_T71 y402 0).f1).length ((rd_T71 y402 0).f1)) := ⟨by rw [← hq_]; exact (by repeat (first | (with_reducible exact HR405_1.out) | (with_reducible refine Kd.C_alloc ?_ _) | (with_reducible refine Kd.C_drewN ?_ _) | (with_reducible refine Kd.C_drew ?_) | exact HR405_1.out))⟩; clear HL405_0 HL405_1 HO398 HO404 HB HR405_0 HR405_1 hq_; have HL405_0 := n0_; have HL405_1 := n1_; have HO398 := n2_; have HO404 := n3_; have HB := n4_; have HR405_0 := n5_; have HR405_1 := n6_; clear n0_ n1_ n2_ n3_ n4_ n5_ n6_)); have p14 : 0 ≤ (t406 : Int) := of_decide_eq_true (by first | (with_reducible assumption) | assumption); have q14 : (t406 : Int) < ((y396.length : Int) : Int) := of_decide_eq_true (by first | (with_reducible assumption) | assumption); obtain ⟨go14, co14, eo14, gb14, gl14, cl14, HG14⟩ := Kd.R_form HO398.out (by omega); (first | cases eo14 | (injection eo14 with ea_ en_ ec_; (first | subst ea_ | (injection ea_ with ea_; subst ea_)); subst ec_; clear en_)); have GB14 := Aside0.mk gb14; have GG14 := Aside0.mk HG14; clear gb14 gl14 HG14; obtain ⟨hx14_0, hf14_0⟩ := Kd.R_celln false HO398.out (t406 : Int) p14 q14; replace p14 := eq_true p14; replace q14 := eq_true q14; (first | have n_ := Aside0.mk (Kd.R_mono (ok' := (fun k_ => (w.heap.size ≤ k_))) HO398.out (fun k_ hk => hk.1)) | have n_ := Aside0.mk HO398.out); clear HO398; have HO398 := n_; clear n_; obtain ⟨hy22_, hz22_⟩ := Kd.R_celln false HO398.out (t406 : Int) (of_decide_eq_true (by first | (with_reducible assumption) | assumption)) (of_decide_eq_true (by first | (with_reducible assumption) | assumption)); have HP22 := Kd.R_putg HO398.out (t406 : Int) true) | ((with_reducible refine gate_store (t := 4) (p := 35) rfl ?_); refine store_event (t := 4) (p := 35) (v := ?vo_w23) (w1 := (w19.setCell ⟨go14, (t406 : Int).toNat, none⟩ (.bool true))) ?hg ?ho ?hn ?hr ?_; (case ho => rfl); (case hg => rfl); (case hn => rfl); (case hr => first | (go_simp; done) | (go_simp; rfl)); intro w23 hw; have hg : w19.grownBy w23 (some go14) := (by rw [hw]; exact HP22.2); have hp_ : Kd.R Kd.bool 4 w23 w.heap.size (fun k_ => (w.heap.size ≤ k_)) (.slice (some ⟨go14, 0, none⟩) y396.length co14) y407 := (by rw [hw, Ny407.out]; exact HP22.1); clear HP22; have n0_ := Aside0.mk (hp_); have n1_ := Aside0.mk (Kd.N_afterv (v := (.slice (some ⟨go14, 0, none⟩) y396.length co14)) (v1 := (.slice (some ⟨go14, 0, none⟩) y396.length co14)) (ok := (fun k_ => (w.heap.size ≤ k_))) (by (with_reducible repeat (first | apply Kd.N_alloc | apply Kd.N_drewN | apply Kd.N_drew)); exact HO404.out) hg (.inl rfl)); have n2_ := Aside0.mk (Kd.V_afterv (v := (.slice (some ⟨go14, 0, none⟩) y396.length co14)) (v1 := (.slice (some ⟨go14, 0, none⟩) y396.length co14)) (ok := (fun k_ => (w.heap.size ≤ k_) ∧ some k_ ≠ (.slice (some ad405) y402.length co21 : Value).ownBlock)) (by (with_reducible repeat (first | apply Kd.V_alloc | apply Kd.V_drewN | apply Kd.V_drew)); exact Kd.V_mono HL405_0.out (fun _ hk => by first | exact ⟨⟨hk.1.1, hk.2⟩, hk.1.2⟩ | exact ⟨⟨hk.1, hk.2.2⟩, hk.2.1⟩ | exact ⟨hk.1, hk.2.2, hk.2.1⟩)) hg (.inl rfl)); have n3_ := Aside0.mk (Kd.V_afterv (v := (.slice (some ⟨go14, 0, none⟩) y396.length co14)) (v1 := (.slice (some ⟨go14, 0, none⟩) y396.length co14)) (ok := (fun k_ => (w.heap.size ≤ k_) ∧ some k_ ≠ (.slice (some ad405) y402.length co21 : Value).ownBlock)) (by (with_reducible repeat (first | apply Kd.V_alloc | apply Kd.V_drewN | apply Kd.V_drew)); exact Kd.V_mono HL405_1.out (fun _ hk => by first | exact ⟨⟨hk.1.1, hk.2⟩, hk.1.2⟩ | exact ⟨⟨hk.1, hk.2.2⟩, hk.2.1⟩ | exact ⟨hk.1, hk.2.2, hk.2.1⟩)) hg (.inl rfl)); have n4_ := Aside0.mk ((by rw [hw]; exact below_set (HB.out) GB14.out : Below w.heap.size w w23)); clear HO398; clear HO404; clear HL405_0; clear HL405_1; clear HB; have HO398 := n0_; have HO404 := n1_; have HL405_0 := n2_; have HL405_1 := n3_; have HB := n4_; clear n0_ n1_ n2_ n3_ n4_; clear hg hw hp_))
        go_loopg [7, 8] k (fun kq v7 v8 w' => ∃ (x6_1 : List Bool) (x7_1 : List (S71)) (x8_1 : Int), v8 = .int .i64 x8_1 ∧ Aside0 (pomaderef07_Word.l0 kq l0 (wrap64 ((l0.length : Int) / 2)) x6_1 x7_1 x8_1 = some (r1, r2)) ∧ Aside0 (kq ≤ k) ∧ Aside0 (Kd.R Kd.bool 4 w' w.heap.size (fun k_ => (w.heap.size ≤ k_)) (.slice (some ⟨go14, 0, none⟩) y396.length co14) x6_1) ∧ Aside0 (Kd.N k71 71 w' w.heap.size (fun k_ => (w.heap.size ≤ k_) ∧ some k_ ≠ ((.slice (some ⟨go14, 0, none⟩) y396.length co14) : Value).ownBlock) v7 x7_1) ∧ Aside0 (Below w.heap.size w w'))
        case atStart => exact ⟨(y407), (y402), (0), (by first | rfl | (simp; done) | (simp [*]; done)), H', ⟨Nat.le_refl _⟩, ⟨by (with_reducible repeat (first | apply Kd.R_alloc | apply Kd.R_drewN | apply Kd.R_drew)); exact HO398.out⟩, ⟨by (with_reducible repeat (first | apply Kd.N_alloc | apply Kd.N_drewN | apply Kd.N_drew)); exact HO404.out⟩, ⟨by repeat (first | (with_reducible first | exact HB.out | apply below_alloc | apply pw_below_drewN | apply below_drew1) | exact HB.out)⟩⟩
        case round =>
         clear H'
         try clear c1
         try clear p1
         try clear q1
         try clear hx1
         try clear hf1
         try clear c2
         try clear p2
         try clear c3
         try clear c3b0
         try clear c3b1
         try clear c4
         try clear p4
         try clear q4
         try clear hx4
         try clear qi4
         try clear c5
         try clear c5b0
         try clear c5b1
         try clear p6
         try clear c7
         try clear c7b0
         try clear c7b1
         try clear c8
         try clear c8b0
         try clear c8b1
         try clear c10
         try clear c10b0
         try clear c10b1
         try clear c12
         try clear c12b0
         try clear c13
         try clear c13b0
         try clear p14
         try clear q14
         try clear hx14
         try clear hf14
         try clear c19
         try clear c22
         try clear hx14_0
         try clear hx405_0
         try clear hx405_1
         try clear p14
         try clear p405
         try clear q14
         try clear q405
         obtain ⟨x6_1, x7_1, x8_1, rfl, HA, HK1, HO_6, HO_7, HB⟩ := hrel
         have hl6_1 := (Kd.R_reads' HO_6.out).1
         rw [hl6_1] at HO_6
         (try simp only [hl6_1])
         (try simp only [hl6_1] at HO_7)
         cases gk with
         | zero => exact absurd HA.out (by simp [pomaderef07_Word.l0])
         | succ k1 =>
          have H := HA.out
          clear HA
          simp only [pomaderef07_Word.l0] at H
          by_cases c24 : 0 ≤ x8_1
          ·rw [if_pos c24] at H
           have c24b0 : decide (0 ≤ x8_1) = true := decide_eq_true c24
           clear c24
           by_cases c25 : x8_1 < (x7_1.length : Int)
           ·rw [if_pos c25] at H
            have c25b0 : decide (x8_1 < (x7_1.length : Int)) = true := decide_eq_true c25
            clear c25
            replace H := Option.bind_eq_some_iff.mp H
            obtain ⟨t410, A260, H⟩ := H
            replace H : (if t410 = true then (some ((rd_T71 x7_1 x8_1).f1, 0)) else (pomaderef07_Word.l1 k1 l0 (wrap64 ((l0.length : Int) / 2)) x6_1 x7_1 x8_1 0 ((rd_T71 x7_1 x8_1).f0) ((rd_T71 x7_1 x8_1).f1))) = some (r1, r2) := H
            have A26 := Aside0.mk A260
            clear A260
            by_cases c27 : t410 = true
            ·subst c27
             have H1 : (some ((rd_T71 x7_1 x8_1).f1, 0)) = some (r1, r2) := by rw [if_pos rfl] at H; exact H
             clear H
             have H := H1
             clear H1
             simp only [Option.some.injEq, Prod.mk.injEq] at H
             obtain ⟨rfl, rfl⟩ := H
             obtain ⟨Ao28, co28, eo28⟩ := Kd.N_slice HO_7.out
             subst eo28
             have p408 : 0 ≤ (x8_1 : Int) := of_decide_eq_true (by first | (with_reducible assumption) | assumption)
             have q408 : x8_1 < (x7_1.length : Int) := of_decide_eq_true (by first | (with_reducible assumption) | assumption)
             obtain ⟨ad408, A408_0, c408_0, A408_1, c408_1, e408, hx408_0, hx408_1, hl408_0, hi408_0, hl408_1, hi408_1⟩ := at_T71 (Kd.N_reads' HO_7.out).2.2 x8_1 p408 q408
             cases e408
             obtain ⟨ce408, hce408, hMe408, hcc408⟩ := Kd.N_get HO_7.out z71 x8_1 p408 (by first | exact q408 | exact of_decide_eq_true (by first | (with_reducible assumption) | assumption) | (have e_ := (Kd.N_reads' HO_7.out).1; omega))
             obtain ⟨ua408_0, uc408_0, ua408_1, uc408_1, rfl, ul408_0, ge408_0, ul408_1, ge408_1⟩ := k71_openF hMe408
             have hv408_0 := hcc408 0 _ rfl
             rw [Nat.add_zero] at hv408_0
             replace hv408_0 := Option.some.inj (hv408_0.symm.trans hx408_0)
             injection hv408_0 with hva_ hvn_ hvc_
             rw [hva_] at ge408_0
             rw [hvc_] at ul408_0
             have HL408_0 := Aside0.mk (show Kd.V (Kd.int .i64) 3 _ w.heap.size _ _ ((rd_T71 x7_1 x8_1).f0) from Kd.V_mk ul408_0 ge408_0)
             clear hva_ hvn_ hvc_ ge408_0 ul408_0
             have hv408_1 := hcc408 1 _ rfl
             rw [add_field _ _ 1 (by omega)] at hv408_1
             replace hv408_1 := Option.some.inj (hv408_1.symm.trans hx408_1)
             injection hv408_1 with hva_ hvn_ hvc_
             rw [hva_] at ge408_1
             rw [hvc_] at ul408_1
             have HL408_1 := Aside0.mk (show Kd.V (Kd.int .i64) 3 _ w.heap.size _ _ ((rd_T71 x7_1 x8_1).f1) from Kd.V_mk ul408_1 ge408_1)
             clear hva_ hvn_ hvc_ ge408_1 ul408_1
             clear hcc408 hce408
             have HR408_0 := Aside0.mk hi408_0
             have HC408_0 := Aside0.mk hl408_0
             clear hi408_0 hl408_0
             have HR408_1 := Aside0.mk hi408_1
             have HC408_1 := Aside0.mk hl408_1
             clear hi408_1 hl408_1
             replace p408 := eq_true p408
             replace q408 := eq_true q408
             go_wp2_with (first | ((with_reducible refine gate_dst (N := 9) rfl ?_); refine box_event ?hg (N := 9) ?hd (cs := #[.slice none 0 0, .slice none 0 0]) (t := 71) ?hr ?_; (case hd => rfl); (case hg => rfl); (case hr => first | (go_simp; done) | (go_simp; rfl)); intro gb409 hg w29 hbox hb; have n0_ := Aside0.mk (Kd.R_below (by (with_reducible repeat (first | apply Kd.R_alloc | apply Kd.R_drewN | apply Kd.R_drew)); exact HO_6.out) hb); have n1_ := Aside0.mk (Kd.N_below (Kd.N_elderB (by (with_reducible repeat (first | apply Kd.N_alloc | apply Kd.N_drewN | apply Kd.N_drew)); exact HO_7.out) gb409 (Nat.le_of_eq hg.symm)) hb); have n2_ := Aside0.mk (Kd.V_below (Kd.V_elderB (by (with_reducible repeat (first | apply Kd.V_alloc | apply Kd.V_drewN | apply Kd.V_drew)); exact HL408_0.out) gb409 (Nat.le_of_eq hg.symm)) hb); have n3_ := Aside0.mk (Kd.V_below (Kd.V_elderB (by (with_reducible repeat (first | apply Kd.V_alloc | apply Kd.V_drewN | apply Kd.V_drew)); exact HL408_1.out) gb409 (Nat.le_of_eq hg.symm)) hb); have n4_ := Aside0.mk (Kd.C_below (by repeat (first | (with_reducible exact HR408_0.out) | (with_reducible refine Kd.C_alloc ?_ _) | (with_reducible refine Kd.C_drewN ?_ _) | (with_reducible refine Kd.C_drew ?_) | exact HR408_0.out)) hb); have n5_ := Aside0.mk (Kd.C_below (by repeat (first | (with_reducible exact HR408_1.out) | (with_reducible refine Kd.C_alloc ?_ _) | (with_reducible refine Kd.C_drewN ?_ _) | (with_reducible refine Kd.C_drew ?_) | exact HR408_1.out)) hb); have n6_ := Aside0.mk (below_step (by repeat (first | (with_reducible first | exact HB.out | apply below_alloc | apply pw_below_drewN | apply below_drew1) | exact HB.out)) hb); have n7_ := Aside0.mk (hbox); have n8_ := Aside0.mk ((by rw [hg]; exact (below_size (by repeat (first | (with_reducible first | exact HB.out | apply below_alloc | apply pw_below_drewN | apply below_drew1) | exact HB.out))) : w.heap.size ≤ gb409)); have n9_ := Aside0.mk ((by rw [hg]; exact (below_size (by repeat (first | (with_reducible first | exact HB.out | apply below_alloc | apply pw_below_drewN | apply below_drew1) | exact HB.out))) : w.heap.size ≤ gb409)); clear HO_6; clear HO_7; clear HL408_0; clear HL408_1; clear HR408_0; clear HR408_1; clear HB; have HO_6 := n0_; have HO_7 := n1_; have HL408_0 := n2_; have HL408_1 := n3_; have HR408_0 := n4_; have HR408_1 := n5_; have HB := n6_; have BK409 := n7_; have GW409 := n8_; have GE409 := n9_; clear n0_ n1_ n2_ n3_ n4_ n5_ n6_ n7_ n8_ n9_; clear hb hbox hg; have hcz30_0 : w29.cell? ⟨gb409, 0, none⟩ = some (.slice none 0 0) := (blk_cell BK409.out 0).trans rfl; have hcz30_1 : w29.cell? ⟨gb409, 1, none⟩ = some (.slice none 0 0) := (blk_cell BK409.out 1).trans rfl; have hfz30_0 := blk_frozen BK409.out 0; have hfz30_1 := blk_frozen BK409.out 1) | ((with_reducible refine gate_callee (f := 57) rfl ?_); refine goesL_ (some 45) rfl rfl Try.func57 (by kernel_rfl) rfl #[.slice A408_0 ((rd_T71 x7_1 x8_1).f0).length c408_0, .slice A0 l0.length c0] rfl (by (try simp only [List.map_toArray, List.map_cons, List.map_nil]); first | done | rfl | (simp only [List.length_drop, List.length_take]; rfl)) ?_; (with_reducible refine (pomaderef07_same.calls k1 _ _ ((rd_T71 x7_1 x8_1).f0) _ _ l0 true _ ?side1 ?side2 ?side3 ?side4 A26.out).mono ?_); (case side1 => repeat (first | exact ((Kd.V_reads' (by (with_reducible repeat (first | apply Kd.V_alloc | apply Kd.V_drewN | apply Kd.V_drew)); exact (Kd.V_mono (Kd.V_far (p := ⟨gb409, 1, none⟩) (Kd.V_far (p := ⟨gb409, 0, none⟩) (Kd.V_mono HL408_0.out (fun k_ hk => (⟨hk, hk.2⟩ : _ ∧ k_ ≠ gb409))) (fun _ hk => hk.2) (.slice A408_0 ((rd_T71 x7_1 x8_1).f0).length c408_0)) (fun _ hk => hk.2) (.slice A408_1 ((rd_T71 x7_1 x8_1).f1).length c408_1)) (fun _ h_ => h_.1)))).2.2) | (with_reducible refine Kd.C_alloc ?_ _) | (with_reducible refine Kd.C_drewN ?_ _) | (with_reducible refine Kd.C_drew ?_))); (case side2 => exact HC408_0.out); (case side3 => exact Kd.C_below HR0.out (by repeat (first | (with_reducible first | exact HB.out | apply below_alloc | apply pw_below_drewN | apply below_drew1 | refine below_set ?_ GE409.out) | exact HB.out))); (case side4 => exact HC0.out); rintro e w' ⟨rfl, ⟨nd, rfl⟩⟩; refine ⟨_, rfl, ?_⟩))
             go_ret2
             exact ⟨_, by first | rfl | (simp [errW_none, errW_some] <;> rfl) | (simp only [← hji4, ← hji6]; first | rfl | (simp [errW_none, errW_some] <;> rfl)) | (simp [*, errW_none, errW_some] <;> rfl), by (with_reducible repeat (first | apply Kd.V_alloc | apply Kd.V_drewN | apply Kd.V_drew)); exact Kd.V_mono (Kd.V_far (p := ⟨gb409, 1, none⟩) (Kd.V_far (p := ⟨gb409, 0, none⟩) (Kd.V_mono HL408_1.out (fun k_ hk => (⟨hk, hk.2⟩ : _ ∧ k_ ≠ gb409))) (fun _ hk => hk.2) (.slice A408_0 ((rd_T71 x7_1 x8_1).f0).length c408_0)) (fun _ hk => hk.2) (.slice A408_1 ((rd_T71 x7_1 x8_1).f1).length c408_1)) (fun _ hk => hk.1.1.1.1), by repeat (first | (with_reducible first | exact HB.out | apply below_alloc | apply pw_below_drewN | apply below_drew1 | refine below_set ?_ GE409.out) | exact HB.out)⟩
            ·replace c27 := Bool.eq_false_iff.mpr c27
             subst c27
             have H1 : (pomaderef07_Word.l1 k1 l0 (wrap64 ((l0.length : Int) / 2)) x6_1 x7_1 x8_1 0 ((rd_T71 x7_1 x8_1).f0) ((rd_T71 x7_1 x8_1).f1)) = some (r1, r2) := by rw [if_neg (show ¬ (false = true) by decide)] at H; exact H
             clear H
             have H := H1
             clear H1
             have H' := Aside0.mk H
             clear H
             obtain ⟨Ao31, co31, eo31⟩ := Kd.N_slice HO_7.out
             subst eo31
             have p408 : 0 ≤ (x8_1 : Int) := of_decide_eq_true (by first | (with_reducible assumption) | assumption)
             have q408 : x8_1 < (x7_1.length : Int) := of_decide_eq_true (by first | (with_reducible assumption) | assumption)
             obtain ⟨ad408, A408_0, c408_0, A408_1, c408_1, e408, hx408_0, hx408_1, hl408_0, hi408_0, hl408_1, hi408_1⟩ := at_T71 (Kd.N_reads' HO_7.out).2.2 x8_1 p408 q408
             cases e408
             obtain ⟨ce408, hce408, hMe408, hcc408⟩ := Kd.N_get HO_7.out z71 x8_1 p408 (by first | exact q408 | exact of_decide_eq_true (by first | (with_reducible assumption) | assumption) | (have e_ := (Kd.N_reads' HO_7.out).1; omega))
             obtain ⟨ua408_0, uc408_0, ua408_1, uc408_1, rfl, ul408_0, ge408_0, ul408_1, ge408_1⟩ := k71_openF hMe408
             have hv408_0 := hcc408 0 _ rfl
             rw [Nat.add_zero] at hv408_0
             replace hv408_0 := Option.some.inj (hv408_0.symm.trans hx408_0)
             injection hv408_0 with hva_ hvn_ hvc_
             rw [hva_] at ge408_0
             rw [hvc_] at ul408_0
             have HL408_0 := Aside0.mk (show Kd.V (Kd.int .i64) 3 _ w.heap.size _ _ ((rd_T71 x7_1 x8_1).f0) from Kd.V_mk ul408_0 ge408_0)
             clear hva_ hvn_ hvc_ ge408_0 ul408_0
             have hv408_1 := hcc408 1 _ rfl
             rw [add_field _ _ 1 (by omega)] at hv408_1
             replace hv408_1 := Option.some.inj (hv408_1.symm.trans hx408_1)
             injection hv408_1 with hva_ hvn_ hvc_
             rw [hva_] at ge408_1
             rw [hvc_] at ul408_1
             have HL408_1 := Aside0.mk (show Kd.V (Kd.int .i64) 3 _ w.heap.size _ _ ((rd_T71 x7_1 x8_1).f1) from Kd.V_mk ul408_1 ge408_1)
             clear hva_ hvn_ hvc_ ge408_1 ul408_1
             clear hcc408 hce408
             have HR408_0 := Aside0.mk hi408_0
             have HC408_0 := Aside0.mk hl408_0
             clear hi408_0 hl408_0
             have HR408_1 := Aside0.mk hi408_1
             have HC408_1 := Aside0.mk hl408_1
             clear hi408_1 hl408_1
             replace p408 := eq_true p408
             replace q408 := eq_true q408
             go_wp2_with (first | ((with_reducible refine gate_dst (N := 9) rfl ?_); refine box_event ?hg (N := 9) ?hd (cs := #[.slice none 0 0, .slice none 0 0]) (t := 71) ?hr ?_; (case hd => rfl); (case hg => rfl); (case hr => first | (go_simp; done) | (go_simp; rfl)); intro gb409 hg w32 hbox hb; have n0_ := Aside0.mk (Kd.R_below (by (with_reducible repeat (first | apply Kd.R_alloc | apply Kd.R_drewN | apply Kd.R_drew)); exact HO_6.out) hb); have n1_ := Aside0.mk (Kd.N_below (Kd.N_elderB (by (with_reducible repeat (first | apply Kd.N_alloc | apply Kd.N_drewN | apply Kd.N_drew)); exact HO_7.out) gb409 (Nat.le_of_eq hg.symm)) hb); have n2_ := Aside0.mk (Kd.V_below (Kd.V_elderB (by (with_reducible repeat (first | apply Kd.V_alloc | apply Kd.V_drewN | apply Kd.V_drew)); exact HL408_0.out) gb409 (Nat.le_of_eq hg.symm)) hb); have n3_ := Aside0.mk (Kd.V_below (Kd.V_elderB (by (with_reducible repeat (first | apply Kd.V_alloc | apply Kd.V_drewN | apply Kd.V_drew)); exact HL408_1.out) gb409 (Nat.le_of_eq hg.symm)) hb); have n4_ := Aside0.mk (Kd.C_below (by repeat (first | (with_reducible exact HR408_0.out) | (with_reducible refine Kd.C_alloc ?_ _) | (with_reducible refine Kd.C_drewN ?_ _) | (with_reducible refine Kd.C_drew ?_) | exact HR408_0.out)) hb); have n5_ := Aside0.mk (Kd.C_below (by repeat (first | (with_reducible exact HR408_1.out) | (with_reducible refine Kd.C_alloc ?_ _) | (with_reducible refine Kd.C_drewN ?_ _) | (with_reducible refine Kd.C_drew ?_) | exact HR408_1.out)) hb); have n6_ := Aside0.mk (below_step (by repeat (first | (with_reducible first | exact HB.out | apply below_alloc | apply pw_below_drewN | apply below_drew1) | exact HB.out)) hb); have n7_ := Aside0.mk (hbox); have n8_ := Aside0.mk ((by rw [hg]; exact (below_size (by repeat (first | (with_reducible first | exact HB.out | apply below_alloc | apply pw_below_drewN | apply below_drew1) | exact HB.out))) : w.heap.size ≤ gb409)); have n9_ := Aside0.mk ((by rw [hg]; exact (below_size (by repeat (first | (with_reducible first | exact HB.out | apply below_alloc | apply pw_below_drewN | apply below_drew1) | exact HB.out))) : w.heap.size ≤ gb409)); clear HO_6; clear HO_7; clear HL408_0; clear HL408_1; clear HR408_0; clear HR408_1; clear HB; have HO_6 := n0_; have HO_7 := n1_; have HL408_0 := n2_; have HL408_1 := n3_; have HR408_0 := n4_; have HR408_1 := n5_; have HB := n6_; have BK409 := n7_; have GW409 := n8_; have GE409 := n9_; clear n0_ n1_ n2_ n3_ n4_ n5_ n6_ n7_ n8_ n9_; clear hb hbox hg; have hcz33_0 : w32.cell? ⟨gb409, 0, none⟩ = some (.slice none 0 0) := (blk_cell BK409.out 0).trans rfl; have hcz33_1 : w32.cell? ⟨gb409, 1, none⟩ = some (.slice none 0 0) := (blk_cell BK409.out 1).trans rfl; have hfz33_0 := blk_frozen BK409.out 0; have hfz33_1 := blk_frozen BK409.out 1) | ((with_reducible refine gate_callee (f := 57) rfl ?_); refine goesL_ (some 45) rfl rfl Try.func57 (by kernel_rfl) rfl #[.slice A408_0 ((rd_T71 x7_1 x8_1).f0).length c408_0, .slice A0 l0.length c0] rfl (by (try simp only [List.map_toArray, List.map_cons, List.map_nil]); first | done | rfl | (simp only [List.length_drop, List.length_take]; rfl)) ?_; (with_reducible refine (pomaderef07_same.calls k1 _ _ ((rd_T71 x7_1 x8_1).f0) _ _ l0 false _ ?side1 ?side2 ?side3 ?side4 A26.out).mono ?_); (case side1 => repeat (first | exact ((Kd.V_reads' (by (with_reducible repeat (first | apply Kd.V_alloc | apply Kd.V_drewN | apply Kd.V_drew)); exact (Kd.V_mono (Kd.V_far (p := ⟨gb409, 1, none⟩) (Kd.V_far (p := ⟨gb409, 0, none⟩) (Kd.V_mono HL408_0.out (fun k_ hk => (⟨hk, hk.2⟩ : _ ∧ k_ ≠ gb409))) (fun _ hk => hk.2) (.slice A408_0 ((rd_T71 x7_1 x8_1).f0).length c408_0)) (fun _ hk => hk.2) (.slice A408_1 ((rd_T71 x7_1 x8_1).f1).length c408_1)) (fun _ h_ => h_.1)))).2.2) | (with_reducible refine Kd.C_alloc ?_ _) | (with_reducible refine Kd.C_drewN ?_ _) | (with_reducible refine Kd.C_drew ?_))); (case side2 => exact HC408_0.out); (case side3 => exact Kd.C_below HR0.out (by repeat (first | (with_reducible first | exact HB.out | apply below_alloc | apply pw_below_drewN | apply below_drew1 | refine below_set ?_ GE409.out) | exact HB.out))); (case side4 => exact HC0.out); rintro e w' ⟨rfl, ⟨nd, rfl⟩⟩; refine ⟨_, rfl, ?_⟩))
             go_loopg [7, 10] k1 (fun kq v7 v10 w' => ∃ (x6_2 : List Bool) (x7_2 : List (S71)) (x10_2 : Int), v10 = .int .i64 x10_2 ∧ Aside0 (pomaderef07_Word.l1 kq l0 (wrap64 ((l0.length : Int) / 2)) x6_2 x7_2 x8_1 x10_2 ((rd_T71 x7_1 x8_1).f0) ((rd_T71 x7_1 x8_1).f1) = some (r1, r2)) ∧ Aside0 (kq ≤ k1) ∧ Aside0 (Kd.R Kd.bool 4 w' w.heap.size (fun k_ => (w.heap.size ≤ k_)) (.slice (some ⟨go14, 0, none⟩) x6_1.length co14) x6_2) ∧ Aside0 (Kd.N k71 71 w' w.heap.size (fun k_ => (w.heap.size ≤ k_) ∧ some k_ ≠ ((.slice (some ⟨go14, 0, none⟩) x6_1.length co14) : Value).ownBlock ∧ k_ ≠ gb409) v7 x7_2) ∧ Aside0 (w'.heap[gb409]? = some (.cells #[(.slice A408_0 ((rd_T71 x7_1 x8_1).f0).length c408_0), (.slice A408_1 ((rd_T71 x7_1 x8_1).f1).length c408_1)] 71 (0, 0))) ∧ Aside0 (XR w' w.heap.size (fun k_ => (w.heap.size ≤ k_ ∧ some k_ ≠ some go14) ∧ some k_ ≠ (v7 : Value).ownBlock) A408_0 c408_0 A408_1 c408_1 ((rd_T71 x7_1 x8_1).f0) ((rd_T71 x7_1 x8_1).f1)) ∧ Aside0 (Below w.heap.size w w'))
             case atStart => exact ⟨(x6_1), (x7_1), (0), (by first | rfl | (simp; done) | (simp [*]; done)), H', ⟨Nat.le_refl _⟩, ⟨by (try simp only [hl6_1]); (with_reducible repeat (first | apply Kd.R_alloc | apply Kd.R_drewN | apply Kd.R_drew)); exact Kd.R_mono (Kd.R_far (p := ⟨gb409, 1, none⟩) (Kd.R_far (p := ⟨gb409, 0, none⟩) (Kd.R_types HO_6.out BK409.out (by decide)) (fun _ hk => hk.2) (.slice A408_0 ((rd_T71 x7_1 x8_1).f0).length c408_0)) (fun _ hk => hk.2) (.slice A408_1 ((rd_T71 x7_1 x8_1).f1).length c408_1)) (fun _ hk => hk.1)⟩, ⟨by (try simp only [hl6_1]); (with_reducible repeat (first | apply Kd.N_alloc | apply Kd.N_drewN | apply Kd.N_drew)); exact Kd.N_mono (Kd.N_far (p := ⟨gb409, 1, none⟩) (Kd.N_far (p := ⟨gb409, 0, none⟩) (Kd.N_mono HO_7.out (fun k_ hk => (⟨hk, hk.2⟩ : _ ∧ k_ ≠ gb409))) (fun _ hk => hk.2) (.slice A408_0 ((rd_T71 x7_1 x8_1).f0).length c408_0)) (fun _ hk => hk.2) (.slice A408_1 ((rd_T71 x7_1 x8_1).f1).length c408_1)) (fun _ hk => ⟨hk.1.1.1, ⟨hk.1.1.2, hk.1.2⟩⟩)⟩, ⟨by (try simp only [hl6_1]); (with_reducible repeat (first | refine blk_drewN ?_ _ | refine blk_drew ?_ | refine blk_alloc ?_ _)); refine blk_put (cs := #[.slice A408_0 ((rd_T71 x7_1 x8_1).f0).length c408_0, .slice none 0 0]) ?_ 1 _ rfl; (with_reducible repeat (first | refine blk_drewN ?_ _ | refine blk_drew ?_ | refine blk_alloc ?_ _)); refine blk_put (cs := #[.slice none 0 0, .slice none 0 0]) ?_ 0 _ rfl; (with_reducible repeat (first | refine blk_drewN ?_ _ | refine blk_drew ?_ | refine blk_alloc ?_ _)); exact BK409.out⟩, ⟨by (try simp only [hl6_1]); (with_reducible repeat (first | refine XR_drewN ?_ _ | refine XR_drew ?_ | refine XR_alloc ?_ _)); exact XR_mono (XR_far (p := ⟨gb409, 1, none⟩) (XR_far (p := ⟨gb409, 0, none⟩) (XR_mono (⟨HL408_0.out, HL408_1.out⟩ : XR _ _ _ _ _ _ _ _ _) (fun k_ hk => (⟨hk, hk.2⟩ : _ ∧ k_ ≠ gb409))) (fun _ hk => hk.2) (.slice A408_0 ((rd_T71 x7_1 x8_1).f0).length c408_0)) (fun _ hk => hk.2) (.slice A408_1 ((rd_T71 x7_1 x8_1).f1).length c408_1)) (fun _ hk => ⟨⟨hk.1.1.1.1, hk.1.1.1.2⟩, hk.1.1.2⟩)⟩, ⟨by repeat (first | (with_reducible first | exact HB.out | apply below_alloc | apply pw_below_drewN | apply below_drew1 | refine below_set ?_ GE409.out) | exact HB.out)⟩⟩
             case round =>
              clear H'
              try clear c1
              try clear p1
              try clear q1
              try clear hx1
              try clear hf1
              try clear c2
              try clear p2
              try clear c3
              try clear c3b0
              try clear c3b1
              try clear c4
              try clear p4
              try clear q4
              try clear hx4
              try clear qi4
              try clear c5
              try clear c5b0
              try clear c5b1
              try clear p6
              try clear c7
              try clear c7b0
              try clear c7b1
              try clear c8
              try clear c8b0
              try clear c8b1
              try clear c10
              try clear c10b0
              try clear c10b1
              try clear c12
              try clear c12b0
              try clear c13
              try clear c13b0
              try clear p14
              try clear q14
              try clear hx14
              try clear hf14
              try clear c19
              try clear c22
              try clear c24
              try clear c24b0
              try clear c25
              try clear c25b0
              try clear c27
              try clear c28
              try clear hcz30_0
              try clear hcz30_1
              try clear hcz33_0
              try clear hcz33_1
              try clear hfz30_0
              try clear hfz30_1
              try clear hfz33_0
              try clear hfz33_1
              try clear hx14_0
              try clear hx405_0
              try clear hx405_1
              try clear hx408_0
              try clear hx408_1
              try clear p1
              try clear p14
              try clear p2
              try clear p4
              try clear p405
              try clear p408
              try clear p6
              try clear q1
              try clear q14
              try clear q4
              try clear q405
              try clear q408
              obtain ⟨x6_2, x7_2, x10_2, rfl, HA, HK2, HO_6, HO_7, BK409, HX, HB⟩ := hrel
              have hl6_2 := (Kd.R_reads' HO_6.out).1
              rw [hl6_2] at HO_6
              (try simp only [hl6_2])
              (try simp only [hl6_2] at BK409)
              (try simp only [hl6_2] at HO_7)
              cases gk with
              | zero => exact absurd HA.out (by simp [pomaderef07_Word.l1])
              | succ k2 =>
               have H := HA.out
               clear HA
               simp only [pomaderef07_Word.l1] at H
               by_cases c34 : (wrap64 (x10_2 + 1)) < (wrap64 ((l0.length : Int) / 2))
               ·rw [if_pos c34] at H
                have c34b0 : decide ((wrap64 (x10_2 + 1)) < (wrap64 ((l0.length : Int) / 2))) = true := decide_eq_true c34
                clear c34
                replace H := Option.bind_eq_some_iff.mp H
                obtain ⟨t411, A350, H⟩ := H
                replace H : ((pomaderef07_product.f k2 ((rd_T71 x7_1 x8_1).f0) t411).bind fun bt414 => ((pomaderef07_place.f k2 bt414.1).bind fun t418 => (if 0 ≤ t418 then (if t418 < (x6_2.length : Int) then (if rdOf false x6_2 t418 = true then (pomaderef07_Word.l1 k2 l0 (wrap64 ((l0.length : Int) / 2)) x6_2 x7_2 x8_1 (wrap64 (x10_2 + 1)) ((rd_T71 x7_1 x8_1).f0) ((rd_T71 x7_1 x8_1).f1)) else ((pomaderef07_place.f k2 bt414.1).bind fun t420 => (if 0 ≤ t420 then (if t420 < (x6_2.length : Int) then ((strings_Builder_Len.f ((rd_T71 x7_1 x8_1).f1) x10_2).bind fun t422 => (if x7_2.length < 2932031007402 then (pomaderef07_Word.l1 k2 l0 (wrap64 ((l0.length : Int) / 2)) (x6_2.set (t420 : Int).toNat true) (x7_2 ++ [(⟨bt414.1, t422⟩ : S71)]) x8_1 (wrap64 (x10_2 + 1)) ((rd_T71 x7_1 x8_1).f0) ((rd_T71 x7_1 x8_1).f1)) else (none))) else (none)) else (none)))) else (none)) else (none)))) = some (r1, r2) := H
                have A35 := Aside0.mk A350
                clear A350
                replace H := Option.bind_eq_some_iff.mp H
                obtain ⟨⟨t414, t415⟩, A360, H⟩ := H
                replace H : ((pomaderef07_place.f k2 t414).bind fun t418 => (if 0 ≤ t418 then (if t418 < (x6_2.length : Int) then (if rdOf false x6_2 t418 = true then (pomaderef07_Word.l1 k2 l0 (wrap64 ((l0.length : Int) / 2)) x6_2 x7_2 x8_1 (wrap64 (x10_2 + 1)) ((rd_T71 x7_1 x8_1).f0) ((rd_T71 x7_1 x8_1).f1)) else ((pomaderef07_place.f k2 t414).bind fun t420 => (if 0 ≤ t420 then (if t420 < (x6_2.length : Int) then ((strings_Builder_Len.f ((rd_T71 x7_1 x8_1).f1) x10_2).bind fun t422 => (if x7_2.length < 2932031007402 then (pomaderef07_Word.l1 k2 l0 (wrap64 ((l0.length : Int) / 2)) (x6_2.set (t420 : Int).toNat true) (x7_2 ++ [(⟨t414, t422⟩ : S71)]) x8_1 (wrap64 (x10_2 + 1)) ((rd_T71 x7_1 x8_1).f0) ((rd_T71 x7_1 x8_1).f1)) else (none))) else (none)) else (none)))) else (none)) else (none))) = some (r1, r2) := H
                have A36 := Aside0.mk A360
                clear A360
                replace H := Option.bind_eq_some_iff.mp H
                obtain ⟨t418, A370, H⟩ := H
                replace H : (if 0 ≤ t418 then (if t418 < (x6_2.length : Int) then (if rdOf false x6_2 t418 = true then (pomaderef07_Word.l1 k2 l0 (wrap64 ((l0.length : Int) / 2)) x6_2 x7_2 x8_1 (wrap64 (x10_2 + 1)) ((rd_T71 x7_1 x8_1).f0) ((rd_T71 x7_1 x8_1).f1)) else ((pomaderef07_place.f k2 t414).bind fun t420 => (if 0 ≤ t420 then (if t420 < (x6_2.length : Int) then ((strings_Builder_Len.f ((rd_T71 x7_1 x8_1).f1) x10_2).bind fun t422 => (if x7_2.length < 2932031007402 then (pomaderef07_Word.l1 k2 l0 (wrap64 ((l0.length : Int) / 2)) (x6_2.set (t420 : Int).toNat true) (x7_2 ++ [(⟨t414, t422⟩ : S71)]) x8_1 (wrap64 (x10_2 + 1)) ((rd_T71 x7_1 x8_1).f0) ((rd_T71 x7_1 x8_1).f1)) else (none))) else (none)) else (none)))) else (none)) else (none)) = some (r1, r2) := H
                have A37 := Aside0.mk A370
                clear A370
                by_cases c38 : 0 ≤ t418
                ·rw [if_pos c38] at H
                 have c38b0 : decide (0 ≤ t418) = true := decide_eq_true c38
                 clear c38
                 by_cases c39 : t418 < (x6_2.length : Int)
                 ·rw [if_pos c39] at H
                  have c39b0 : decide (t418 < (x6_2.length : Int)) = true := decide_eq_true c39
                  clear c39
                  obtain ⟨bq40, hbq40⟩ : ∃ b_ : Bool, b_ = (rdOf false x6_2 t418) := ⟨_, rfl⟩
                  replace H : (if bq40 = true then (pomaderef07_Word.l1 k2 l0 (wrap64 ((l0.length : Int) / 2)) x6_2 x7_2 x8_1 (wrap64 (x10_2 + 1)) ((rd_T71 x7_1 x8_1).f0) ((rd_T71 x7_1 x8_1).f1)) else ((pomaderef07_place.f k2 t414).bind fun t420 => (if 0 ≤ t420 then (if t420 < (x6_2.length : Int) then ((strings_Builder_Len.f ((rd_T71 x7_1 x8_1).f1) x10_2).bind fun t422 => (if x7_2.length < 2932031007402 then (pomaderef07_Word.l1 k2 l0 (wrap64 ((l0.length : Int) / 2)) (x6_2.set (t420 : Int).toNat true) (x7_2 ++ [(⟨t414, t422⟩ : S71)]) x8_1 (wrap64 (x10_2 + 1)) ((rd_T71 x7_1 x8_1).f0) ((rd_T71 x7_1 x8_1).f1)) else (none))) else (none)) else (none)))) = some (r1, r2) := by rw [← hbq40] at H; exact H
                  have Nbq40 := Aside0.mk hbq40
                  clear hbq40
                  by_cases c41 : bq40 = true
                  ·subst c41
                   have H1 : (pomaderef07_Word.l1 k2 l0 (wrap64 ((l0.length : Int) / 2)) x6_2 x7_2 x8_1 (wrap64 (x10_2 + 1)) ((rd_T71 x7_1 x8_1).f0) ((rd_T71 x7_1 x8_1).f1)) = some (r1, r2) := by rw [if_pos rfl] at H; exact H
                   clear H
                   have H := H1
                   clear H1
                   have H' := Aside0.mk H
                   clear H
                   try go_wp2
                   have n0_ := Aside0.mk (Kd.R_drew HO_6.out)
                   have n1_ := Aside0.mk (Kd.N_drew HO_7.out)
                   have n2_ := Aside0.mk (blk_drew BK409.out)
                   have n3_ := Aside0.mk (below_drew1 HB.out)
                   replace HX := Aside0.mk (XR_drew HX.out)
                   clear HO_6
                   clear HO_7
                   clear BK409
                   clear HB
                   have HO_6 := n0_
                   have HO_7 := n1_
                   have BK409 := n2_
                   have HB := n3_
                   clear n0_ n1_ n2_ n3_
                   refine start_ (n := 11) (S := fun w' => w'.cell? ⟨gb409, 0, none⟩ = some (.slice A408_0 ((rd_T71 x7_1 x8_1).f0).length c408_0) ∧ w'.cell? ⟨gb409, 1, none⟩ = some (.slice A408_1 ((rd_T71 x7_1 x8_1).f1).length c408_1)) (ds := []) #[false, false, false, false, false, false, false, false, false, false, false] (by kernel_rfl) rfl rfl ⟨(blk_cell BK409.out 0).trans rfl, (blk_cell BK409.out 1).trans rfl⟩ (fun hHeld => ?_); refine with_tabW pomaderef07_Word.tab16 pomaderef07_Word.bits16 (fun HT_ HW_ => ?_)
                   generalize wr.drew = w42 at HO_6 HO_7 BK409 HX HB hHeld ⊢
                   refine pure_ (i := 0) (N := some 55) (v := ?_) (a' := ?_) #[true, false, false, false, false, false, false, false, false, false, false] rfl rfl (any_of HT_.out (by kernel_rfl)) (fun _ _ _ h => h) (Or.inl ⟨by rfl, ?_⟩) ?_ ?_
                   rotate_left
                   ·intro w'
                    go_simp
                    with_reducible rfl
                   rotate_left
                   ·simp only [Act.put, List.setIfInBounds_toArray, List.set_cons_zero, List.set_cons_succ, i64_w, i32_w]
                    rfl
                   refine pure_ (i := 2) (N := some 57) (v := ?_) (a' := ?_) #[true, false, true, false, false, false, false, false, false, false, false] rfl rfl (any_of HT_.out (by kernel_rfl)) (fun _ _ _ h => h) (Or.inl ⟨by rfl, ?_⟩) ?_ ?_
                   rotate_left
                   ·intro w'
                    go_simp
                    with_reducible rfl
                   rotate_left
                   ·simp only [Act.put, List.setIfInBounds_toArray, List.set_cons_zero, List.set_cons_succ, i64_w, i32_w]
                    rfl
                   refine pure_ (i := 3) (N := some 58) (v := ?_) (a' := ?_) #[true, false, true, true, false, false, false, false, false, false, false] rfl rfl (any_of HT_.out (by kernel_rfl)) (fun _ _ _ h => h) (Or.inl ⟨by rfl, ?_⟩) ?_ ?_
                   rotate_left
                   ·intro w'
                    go_simp
                    with_reducible rfl
                   rotate_left
                   ·simp only [Act.put, List.setIfInBounds_toArray, List.set_cons_zero, List.set_cons_succ, i64_w, i32_w]
                    rfl
                   refine take_ (i := 1) (N := some 56) (v := ?_) (a' := ?_) #[true, true, true, true, false, false, false, false, false, false, false] rfl rfl (take_ofW HT_.out HW_.out (by kernel_rfl)) (fun _ _ _ h => h) (Or.inl ⟨by rfl, ?_⟩) hHeld ?_ ?_
                   rotate_left
                   ·rintro w' ⟨s0, s1⟩
                    go_simp
                    with_reducible rfl
                   rotate_left
                   ·simp only [Act.put, List.setIfInBounds_toArray, List.set_cons_zero, List.set_cons_succ, i64_w, i32_w]
                    rfl
                   refine one_ (i := 4) (N := some 59) #[true, true, true, true, true, false, false, false, false, false, false] rfl rfl (one_of HT_.out (by kernel_rfl)) (by decide) (fun K hK => ?_)
                   refine goes_ Try.func52 (by kernel_rfl) rfl #[.int .i64 (wrap64 ((l0.length : Int) / 2)), .int .i64 x10_2] (by rfl) rfl rfl (by (try simp only [List.map_toArray, List.map_cons, List.map_nil]); first | done | rfl | (simp only [List.length_drop, List.length_take]; rfl)) ?_
                   with_reducible refine (pomaderef07_Hook.calls k2 (wrap64 ((l0.length : Int) / 2)) x10_2 t411 _ A35.out).mono ?_
                   rintro e w43 ⟨v412, rfl, ho0, hb⟩
                   refine ⟨_, rfl, ?_⟩
                   replace HX := Aside0.mk (XR_below (by (with_reducible repeat (first | refine XR_drewN ?_ _ | refine XR_drew ?_ | refine XR_alloc ?_ _)); exact HX.out) hb)
                   have n0_ := Aside0.mk (Kd.R_below (by (with_reducible repeat (first | apply Kd.R_alloc | apply Kd.R_drewN | apply Kd.R_drew)); exact HO_6.out) hb)
                   have n1_ := Aside0.mk (Kd.N_elder' (by (with_reducible repeat (first | apply Kd.N_alloc | apply Kd.N_drewN | apply Kd.N_drew)); exact HO_7.out) (Kd.R_base ho0) hb)
                   have n2_ := Aside0.mk (Kd.R_lower (Kd.R_newM (M := fun k_ => (w.heap.size ≤ k_)) ho0 (below_size (by repeat (first | (with_reducible first | exact HB.out | apply below_alloc | apply pw_below_drewN | apply below_drew1 | refine below_set ?_ GE409.out) | exact HB.out))) (fun k_ h_ => h_)) (below_size (by repeat (first | (with_reducible first | exact HB.out | apply below_alloc | apply pw_below_drewN | apply below_drew1 | refine below_set ?_ GE409.out) | exact HB.out))))
                   have n3_ := Aside0.mk (blk_below (g := gb409) (o := .cells #[.slice A408_0 ((rd_T71 x7_1 x8_1).f0).length c408_0, .slice A408_1 ((rd_T71 x7_1 x8_1).f1).length c408_1] 71 (0, 0)) (by (with_reducible repeat (first | refine blk_drewN ?_ _ | refine blk_drew ?_ | refine blk_alloc ?_ _)); exact BK409.out) hb)
                   have n4_ := Aside0.mk (below_step (by repeat (first | (with_reducible first | exact HB.out | apply below_alloc | apply pw_below_drewN | apply below_drew1 | refine below_set ?_ GE409.out) | exact HB.out)) hb)
                   clear HO_6
                   clear HO_7
                   clear BK409
                   clear HB
                   have HO_6 := n0_
                   have HO_7 := n1_
                   have HO413 := n2_
                   have BK409 := n3_
                   have HB := n4_
                   clear n0_ n1_ n2_ n3_ n4_
                   (try clear hb)
                   (try clear hb2)
                   (try clear hk)
                   (try clear hi)
                   (try clear ho0)
                   obtain ⟨Ao44, co44, eo44⟩ := Kd.R_slice HO413.out
                   (first | subst eo44 | (injection eo44 with f1_ f2_ f3_; have f4_ := f1_.symm; have f5_ := f3_.symm; clear f1_ f2_ f3_; subst f4_; subst f5_))
                   refine hK.out _ _ ⟨(blk_cell BK409.out 0).trans rfl, (blk_cell BK409.out 1).trans rfl⟩ (fun hHeld => ?_)
                   clear hK K
                   refine norm_ (a' := ?_) ?_ ?_
                   rotate_left
                   ·show Act.put _ (some 59) _ = _
                    simp only [Act.put, List.setIfInBounds_toArray, List.set_cons_zero, List.set_cons_succ, i64_w, i32_w]
                    rfl
                   refine one_ (i := 5) (N := some 60) #[true, true, true, true, true, true, false, false, false, false, false] rfl rfl (one_of HT_.out (by kernel_rfl)) (by decide) (fun K hK => ?_)
                   refine goes_ Try.func58 (by kernel_rfl) rfl #[.slice A408_0 ((rd_T71 x7_1 x8_1).f0).length c408_0, .slice Ao44 t411.length co44] (by rfl) rfl rfl (by (try simp only [List.map_toArray, List.map_cons, List.map_nil]); first | done | rfl | (simp only [List.length_drop, List.length_take]; rfl)) ?_
                   with_reducible refine (pomaderef07_product.calls k2 _ _ ((rd_T71 x7_1 x8_1).f0) _ _ t411 t414 t415 _ ?side1 ?side2 ?side3 ?side4 A36.out).mono ?_
                   (case side1 => repeat (first | exact (Kd.V_reads' HX.out.1).2.2 | (with_reducible refine Kd.C_alloc ?_ _) | (with_reducible refine Kd.C_drewN ?_ _) | (with_reducible refine Kd.C_drew ?_)))
                   (case side2 => exact HC408_0.out)
                   (case side3 => repeat (first | exact (Kd.R_reads' HO413.out).2.2 | (with_reducible refine Kd.C_alloc ?_ _) | (with_reducible refine Kd.C_drewN ?_ _) | (with_reducible refine Kd.C_drew ?_)))
                   (case side4 => exact (Kd.R_reads' HO413.out).2.1)
                   rintro e w45 ⟨v416, rfl, ho0, hb⟩
                   refine ⟨_, rfl, ?_⟩
                   replace HX := Aside0.mk (XR_below (by (with_reducible repeat (first | refine XR_drewN ?_ _ | refine XR_drew ?_ | refine XR_alloc ?_ _)); exact HX.out) hb)
                   have n0_ := Aside0.mk (Kd.R_below (by (with_reducible repeat (first | apply Kd.R_alloc | apply Kd.R_drewN | apply Kd.R_drew)); exact HO_6.out) hb)
                   have n1_ := Aside0.mk (Kd.N_elder' (by (with_reducible repeat (first | apply Kd.N_alloc | apply Kd.N_drewN | apply Kd.N_drew)); exact HO_7.out) (Kd.R_base ho0) hb)
                   have n2_ := Aside0.mk (Kd.R_elder' (by (with_reducible repeat (first | apply Kd.R_alloc | apply Kd.R_drewN | apply Kd.R_drew)); exact HO413.out) (Kd.R_base ho0) hb)
                   have n3_ := Aside0.mk (Kd.R_lower (Kd.R_new' (Kd.R_newM (M := fun k_ => (w.heap.size ≤ k_)) ho0 (below_size (by repeat (first | (with_reducible first | exact HB.out | apply below_alloc | apply pw_below_drewN | apply below_drew1 | refine below_set ?_ GE409.out) | exact HB.out))) (fun k_ h_ => h_)) (Kd.R_lt (by (with_reducible repeat (first | apply Kd.R_alloc | apply Kd.R_drewN | apply Kd.R_drew)); exact HO413.out))) (below_size (by repeat (first | (with_reducible first | exact HB.out | apply below_alloc | apply pw_below_drewN | apply below_drew1 | refine below_set ?_ GE409.out) | exact HB.out))))
                   have n4_ := Aside0.mk (blk_below (g := gb409) (o := .cells #[.slice A408_0 ((rd_T71 x7_1 x8_1).f0).length c408_0, .slice A408_1 ((rd_T71 x7_1 x8_1).f1).length c408_1] 71 (0, 0)) (by (with_reducible repeat (first | refine blk_drewN ?_ _ | refine blk_drew ?_ | refine blk_alloc ?_ _)); exact BK409.out) hb)
                   have n5_ := Aside0.mk (below_step (by repeat (first | (with_reducible first | exact HB.out | apply below_alloc | apply pw_below_drewN | apply below_drew1 | refine below_set ?_ GE409.out) | exact HB.out)) hb)
                   clear HO_6
                   clear HO_7
                   clear HO413
                   clear BK409
                   clear HB
                   have HO_6 := n0_
                   have HO_7 := n1_
                   have HO413 := n2_
                   have HO417 := n3_
                   have BK409 := n4_
                   have HB := n5_
                   clear n0_ n1_ n2_ n3_ n4_ n5_
                   (try clear hb)
                   (try clear hb2)
                   (try clear hk)
                   (try clear hi)
                   (try clear ho0)
                   refine hK.out _ _ ⟨(blk_cell BK409.out 0).trans rfl, (blk_cell BK409.out 1).trans rfl⟩ (fun hHeld => ?_)
                   clear hK K
                   refine norm_ (a' := ?_) ?_ ?_
                   rotate_left
                   ·show Act.put _ (some 60) _ = _
                    simp only [Act.put, List.setIfInBounds_toArray, List.set_cons_zero, List.set_cons_succ, i64_w, i32_w]
                    rfl
                   refine pure_ (i := 6) (N := some 54) (v := ?_) (a' := ?_) #[true, true, true, true, true, true, true, false, false, false, false] rfl rfl (any_of HT_.out (by kernel_rfl)) (fun _ _ _ h => h) (Or.inl ⟨by rfl, ?_⟩) ?_ ?_
                   rotate_left
                   ·intro w'
                    go_simp
                    with_reducible rfl
                   rotate_left
                   ·simp only [Act.put, List.setIfInBounds_toArray, List.set_cons_zero, List.set_cons_succ, i64_w, i32_w]
                    rfl
                   refine pure_ (i := 7) (N := some 61) (v := ?_) (a' := ?_) #[true, true, true, true, true, true, true, true, false, false, false] rfl rfl (any_of HT_.out (by kernel_rfl)) (fun _ _ _ h => h) (Or.inl ⟨by rfl, ?_⟩) ?_ ?_
                   rotate_left
                   ·intro w'
                    go_simp
                    with_reducible rfl
                   rotate_left
                   ·simp only [Act.put, List.setIfInBounds_toArray, List.set_cons_zero, List.set_cons_succ, i64_w, i32_w]
                    rfl
                   refine pure_ (i := 8) (N := some 62) (v := ?_) (a' := ?_) #[true, true, true, true, true, true, true, true, true, false, false] rfl rfl (any_of HT_.out (by kernel_rfl)) (fun _ _ _ h => h) (Or.inl ⟨by rfl, ?_⟩) ?_ ?_
                   rotate_left
                   ·intro w'
                    go_simp
                    with_reducible rfl
                   rotate_left
                   ·simp only [Act.put, List.setIfInBounds_toArray, List.set_cons_zero, List.set_cons_succ, i64_w, i32_w]
                    rfl
                   refine pure_ (i := 9) (N := some 11) (v := ?_) (a' := ?_) #[true, true, true, true, true, true, true, true, true, true, false] rfl rfl (any_of HT_.out (by kernel_rfl)) (fun _ _ _ h => h) (Or.inl ⟨by rfl, ?_⟩) ?_ ?_
                   rotate_left
                   ·intro w'
                    go_simp
                    with_reducible rfl
                   rotate_left
                   ·simp only [Act.put, List.setIfInBounds_toArray, List.set_cons_zero, List.set_cons_succ, i64_w, i32_w]
                    rfl
                   refine pure_ (i := 10) (N := some 12) (v := ?_) (a' := ?_) #[true, true, true, true, true, true, true, true, true, true, true] rfl rfl (any_of HT_.out (by kernel_rfl)) (fun _ _ _ h => h) (Or.inl ⟨by rfl, ?_⟩) ?_ ?_
                   rotate_left
                   ·intro w'
                    go_simp
                    with_reducible rfl
                   rotate_left
                   ·simp only [Act.put, List.setIfInBounds_toArray, List.set_cons_zero, List.set_cons_succ, i64_w, i32_w]
                    rfl
                   refine done_ (done_of HT_.out (by kernel_rfl)) ?_
                   obtain ⟨Ao46, co46, eo46⟩ := Kd.R_slice HO417.out
                   subst eo46
                   try go_wp2_with (first | ((with_reducible refine gate_callee (f := 56) rfl ?_); refine goesL_ (some 65) rfl rfl Try.func56 (by kernel_rfl) rfl #[.slice Ao46 t414.length co46] rfl (by (try simp only [List.map_toArray, List.map_cons, List.map_nil]); first | done | rfl | (simp only [List.length_drop, List.length_take]; rfl)) ?_; (with_reducible refine (pomaderef07_place.calls k2 _ _ t414 t418 _ ?side1 ?side2 A37.out).mono ?_); (case side1 => repeat (first | exact (Kd.R_reads' HO417.out).2.2 | (with_reducible refine Kd.C_alloc ?_ _) | (with_reducible refine Kd.C_drewN ?_ _) | (with_reducible refine Kd.C_drew ?_))); (case side2 => exact (Kd.R_reads' HO417.out).2.1); rintro e w' ⟨rfl, ⟨nd, rfl⟩⟩; refine ⟨_, rfl, ?_⟩; have p419 : 0 ≤ (t418 : Int) := of_decide_eq_true (by first | (with_reducible assumption) | assumption); have q419 : t418 < (x6_2.length : Int) := of_decide_eq_true (by first | (with_reducible assumption) | assumption); obtain ⟨ad419, e419, hx419_0⟩ := Kd.at_bool (Kd.R_reads' HO_6.out).2.2 t418 p419 q419; (try rw [← Nbq40.out] at hx419_0); obtain rfl : (⟨go14, 0, none⟩ : Addr) = ad419 := (by injection e419); (first | simp only [add_plain] at hx419_0 | simp only [add_at] at hx419_0 | simp only [Addr.add, Nat.zero_add] at hx419_0 | skip); replace p419 := eq_true p419; replace q419 := eq_true q419))
                   (try simp only [← hl6_2])
                   go_roundg k2
                   case measure => have := HK1.out; have := HK2.out; omega
                   case rel => exact ⟨(x6_2), (x7_2), (wrap64 (x10_2 + 1)), (by first | rfl | (simp; done) | (simp [*]; done)), H', ⟨by have := HK1.out; have := HK2.out; omega⟩, ⟨by (try simp only [hl6_1]); (try simp only [hl6_2]); (with_reducible repeat (first | apply Kd.R_alloc | apply Kd.R_drewN | apply Kd.R_drew)); exact HO_6.out⟩, ⟨by (try simp only [hl6_1]); (try simp only [hl6_2]); (with_reducible repeat (first | apply Kd.N_alloc | apply Kd.N_drewN | apply Kd.N_drew)); exact Kd.N_mono HO_7.out (fun _ hk => ⟨hk.1.1.1, ⟨hk.1.1.2.1, hk.1.1.2.2⟩⟩)⟩, ⟨by (try simp only [hl6_1]); (try simp only [hl6_2]); (with_reducible repeat (first | refine blk_drewN ?_ _ | refine blk_drew ?_ | refine blk_alloc ?_ _)); exact BK409.out⟩, ⟨by (try simp only [hl6_1]); (try simp only [hl6_2]); (with_reducible repeat (first | refine XR_drewN ?_ _ | refine XR_drew ?_ | refine XR_alloc ?_ _)); exact HX.out⟩, ⟨by repeat (first | (with_reducible first | exact HB.out | apply below_alloc | apply pw_below_drewN | apply below_drew1 | refine below_set ?_ GE409.out) | exact HB.out)⟩⟩
                  ·replace c41 := Bool.eq_false_iff.mpr c41
                   subst c41
                   have H1 : ((pomaderef07_place.f k2 t414).bind fun t420 => (if 0 ≤ t420 then (if t420 < (x6_2.length : Int) then ((strings_Builder_Len.f ((rd_T71 x7_1 x8_1).f1) x10_2).bind fun t422 => (if x7_2.length < 2932031007402 then (pomaderef07_Word.l1 k2 l0 (wrap64 ((l0.length : Int) / 2)) (x6_2.set (t420 : Int).toNat true) (x7_2 ++ [(⟨t414, t422⟩ : S71)]) x8_1 (wrap64 (x10_2 + 1)) ((rd_T71 x7_1 x8_1).f0) ((rd_T71 x7_1 x8_1).f1)) else (none))) else (none)) else (none))) = some (r1, r2) := by rw [if_neg (show ¬ (false = true) by decide)] at H; exact H
                   clear H
                   have H := H1
                   clear H1
                   replace H := Option.bind_eq_some_iff.mp H
                   obtain ⟨t420, A470, H⟩ := H
                   replace H : (if 0 ≤ t420 then (if t420 < (x6_2.length : Int) then ((strings_Builder_Len.f ((rd_T71 x7_1 x8_1).f1) x10_2).bind fun t422 => (if x7_2.length < 2932031007402 then (pomaderef07_Word.l1 k2 l0 (wrap64 ((l0.length : Int) / 2)) (x6_2.set (t420 : Int).toNat true) (x7_2 ++ [(⟨t414, t422⟩ : S71)]) x8_1 (wrap64 (x10_2 + 1)) ((rd_T71 x7_1 x8_1).f0) ((rd_T71 x7_1 x8_1).f1)) else (none))) else (none)) else (none)) = some (r1, r2) := H
                   have A47 := Aside0.mk A470
                   clear A470
                   by_cases c48 : 0 ≤ t420
                   ·rw [if_pos c48] at H
                    have c48b0 : decide (0 ≤ t420) = true := decide_eq_true c48
                    clear c48
                    by_cases c49 : t420 < (x6_2.length : Int)
                    ·rw [if_pos c49] at H
                     have c49b0 : decide (t420 < (x6_2.length : Int)) = true := decide_eq_true c49
                     clear c49
                     obtain ⟨y421, hy421⟩ : ∃ y_ : List Bool, y_ = (x6_2.set (t420 : Int).toNat true) := ⟨_, rfl⟩
                     replace H : ((strings_Builder_Len.f ((rd_T71 x7_1 x8_1).f1) x10_2).bind fun t422 => (if x7_2.length < 2932031007402 then (pomaderef07_Word.l1 k2 l0 (wrap64 ((l0.length : Int) / 2)) y421 (x7_2 ++ [(⟨t414, t422⟩ : S71)]) x8_1 (wrap64 (x10_2 + 1)) ((rd_T71 x7_1 x8_1).f0) ((rd_T71 x7_1 x8_1).f1)) else (none))) = some (r1, r2) := by first | (rw [hy421]; with_reducible exact H) | (have H2_ := (Option.bind_some _ _).symm.trans H; rw [hy421]; with_reducible exact H2_) | (have H2_ := (Option.bind_some _ _).symm.trans H; with_reducible exact H2_) | with_reducible exact H | (rw [hy421]; exact H) | exact H
                     have Ny421 := Aside0.mk hy421
                     clear hy421
                     replace H := Option.bind_eq_some_iff.mp H
                     obtain ⟨t422, A510, H⟩ := H
                     replace H : (if x7_2.length < 2932031007402 then (pomaderef07_Word.l1 k2 l0 (wrap64 ((l0.length : Int) / 2)) y421 (x7_2 ++ [(⟨t414, t422⟩ : S71)]) x8_1 (wrap64 (x10_2 + 1)) ((rd_T71 x7_1 x8_1).f0) ((rd_T71 x7_1 x8_1).f1)) else (none)) = some (r1, r2) := H
                     have A51 := Aside0.mk A510
                     clear A510
                     by_cases c52 : x7_2.length < 2932031007402
                     ·rw [if_pos c52] at H
                      have LMc52 := Aside0.mk c52
                      clear c52
                      obtain ⟨y425, hy425⟩ : ∃ y_ : List (S71), y_ = (x7_2 ++ [(⟨t414, t422⟩ : S71)]) := ⟨_, rfl⟩
                      replace H : (pomaderef07_Word.l1 k2 l0 (wrap64 ((l0.length : Int) / 2)) y421 y425 x8_1 (wrap64 (x10_2 + 1)) ((rd_T71 x7_1 x8_1).f0) ((rd_T71 x7_1 x8_1).f1)) = some (r1, r2) := by first | (rw [hy425]; with_reducible exact H) | (have H2_ := (Option.bind_some _ _).symm.trans H; rw [hy425]; with_reducible exact H2_) | (have H2_ := (Option.bind_some _ _).symm.trans H; with_reducible exact H2_) | with_reducible exact H | (rw [hy425]; exact H) | exact H
                      have Ny425 := Aside0.mk hy425
                      clear hy425
                      have H' := Aside0.mk H
                      clear H
                      try go_wp2
                      have n0_ := Aside0.mk (Kd.R_drew HO_6.out)
                      have n1_ := Aside0.mk (Kd.N_drew HO_7.out)
                      have n2_ := Aside0.mk (blk_drew BK409.out)
                      have n3_ := Aside0.mk (below_drew1 HB.out)
                      replace HX := Aside0.mk (XR_drew HX.out)
                      clear HO_6
                      clear HO_7
                      clear BK409
                      clear HB
                      have HO_6 := n0_
                      have HO_7 := n1_
                      have BK409 := n2_
                      have HB := n3_
                      clear n0_ n1_ n2_ n3_
                      refine start_ (n := 11) (S := fun w' => w'.cell? ⟨gb409, 0, none⟩ = some (.slice A408_0 ((rd_T71 x7_1 x8_1).f0).length c408_0) ∧ w'.cell? ⟨gb409, 1, none⟩ = some (.slice A408_1 ((rd_T71 x7_1 x8_1).f1).length c408_1)) (ds := []) #[false, false, false, false, false, false, false, false, false, false, false] (by kernel_rfl) rfl rfl ⟨(blk_cell BK409.out 0).trans rfl, (blk_cell BK409.out 1).trans rfl⟩ (fun hHeld => ?_); refine with_tabW pomaderef07_Word.tab16 pomaderef07_Word.bits16 (fun HT_ HW_ => ?_)
                      generalize wr.drew = w53 at HO_6 HO_7 BK409 HX HB hHeld ⊢
                      refine pure_ (i := 0) (N := some 55) (v := ?_) (a' := ?_) #[true, false, false, false, false, false, false, false, false, false, false] rfl rfl (any_of HT_.out (by kernel_rfl)) (fun _ _ _ h => h) (Or.inl ⟨by rfl, ?_⟩) ?_ ?_
                      rotate_left
                      ·intro w'
                       go_simp
                       with_reducible rfl
                      rotate_left
                      ·simp only [Act.put, List.setIfInBounds_toArray, List.set_cons_zero, List.set_cons_succ, i64_w, i32_w]
                       rfl
                      refine pure_ (i := 2) (N := some 57) (v := ?_) (a' := ?_) #[true, false, true, false, false, false, false, false, false, false, false] rfl rfl (any_of HT_.out (by kernel_rfl)) (fun _ _ _ h => h) (Or.inl ⟨by rfl, ?_⟩) ?_ ?_
                      rotate_left
                      ·intro w'
                       go_simp
                       with_reducible rfl
                      rotate_left
                      ·simp only [Act.put, List.setIfInBounds_toArray, List.set_cons_zero, List.set_cons_succ, i64_w, i32_w]
                       rfl
                      refine pure_ (i := 3) (N := some 58) (v := ?_) (a' := ?_) #[true, false, true, true, false, false, false, false, false, false, false] rfl rfl (any_of HT_.out (by kernel_rfl)) (fun _ _ _ h => h) (Or.inl ⟨by rfl, ?_⟩) ?_ ?_
                      rotate_left
                      ·intro w'
                       go_simp
                       with_reducible rfl
                      rotate_left
                      ·simp only [Act.put, List.setIfInBounds_toArray, List.set_cons_zero, List.set_cons_succ, i64_w, i32_w]
                       rfl
                      refine take_ (i := 1) (N := some 56) (v := ?_) (a' := ?_) #[true, true, true, true, false, false, false, false, false, false, false] rfl rfl (take_ofW HT_.out HW_.out (by kernel_rfl)) (fun _ _ _ h => h) (Or.inl ⟨by rfl, ?_⟩) hHeld ?_ ?_
                      rotate_left
                      ·rintro w' ⟨s0, s1⟩
                       go_simp
                       with_reducible rfl
                      rotate_left
                      ·simp only [Act.put, List.setIfInBounds_toArray, List.set_cons_zero, List.set_cons_succ, i64_w, i32_w]
                       rfl
                      refine one_ (i := 4) (N := some 59) #[true, true, true, true, true, false, false, false, false, false, false] rfl rfl (one_of HT_.out (by kernel_rfl)) (by decide) (fun K hK => ?_)
                      refine goes_ Try.func52 (by kernel_rfl) rfl #[.int .i64 (wrap64 ((l0.length : Int) / 2)), .int .i64 x10_2] (by rfl) rfl rfl (by (try simp only [List.map_toArray, List.map_cons, List.map_nil]); first | done | rfl | (simp only [List.length_drop, List.length_take]; rfl)) ?_
                      with_reducible refine (pomaderef07_Hook.calls k2 (wrap64 ((l0.length : Int) / 2)) x10_2 t411 _ A35.out).mono ?_
                      rintro e w54 ⟨v412, rfl, ho0, hb⟩
                      refine ⟨_, rfl, ?_⟩
                      replace HX := Aside0.mk (XR_below (by (with_reducible repeat (first | refine XR_drewN ?_ _ | refine XR_drew ?_ | refine XR_alloc ?_ _)); exact HX.out) hb)
                      have n0_ := Aside0.mk (Kd.R_below (by (with_reducible repeat (first | apply Kd.R_alloc | apply Kd.R_drewN | apply Kd.R_drew)); exact HO_6.out) hb)
                      have n1_ := Aside0.mk (Kd.N_elder' (by (with_reducible repeat (first | apply Kd.N_alloc | apply Kd.N_drewN | apply Kd.N_drew)); exact HO_7.out) (Kd.R_base ho0) hb)
                      have n2_ := Aside0.mk (Kd.R_lower (Kd.R_newM (M := fun k_ => (w.heap.size ≤ k_)) ho0 (below_size (by repeat (first | (with_reducible first | exact HB.out | apply below_alloc | apply pw_below_drewN | apply below_drew1 | refine below_set ?_ GE409.out) | exact HB.out))) (fun k_ h_ => h_)) (below_size (by repeat (first | (with_reducible first | exact HB.out | apply below_alloc | apply pw_below_drewN | apply below_drew1 | refine below_set ?_ GE409.out) | exact HB.out))))
                      have n3_ := Aside0.mk (blk_below (g := gb409) (o := .cells #[.slice A408_0 ((rd_T71 x7_1 x8_1).f0).length c408_0, .slice A408_1 ((rd_T71 x7_1 x8_1).f1).length c408_1] 71 (0, 0)) (by (with_reducible repeat (first | refine blk_drewN ?_ _ | refine blk_drew ?_ | refine blk_alloc ?_ _)); exact BK409.out) hb)
                      have n4_ := Aside0.mk (below_step (by repeat (first | (with_reducible first | exact HB.out | apply below_alloc | apply pw_below_drewN | apply below_drew1 | refine below_set ?_ GE409.out) | exact HB.out)) hb)
                      clear HO_6
                      clear HO_7
                      clear BK409
                      clear HB
                      have HO_6 := n0_
                      have HO_7 := n1_
                      have HO413 := n2_
                      have BK409 := n3_
                      have HB := n4_
                      clear n0_ n1_ n2_ n3_ n4_
                      (try clear hb)
                      (try clear hb2)
                      (try clear hk)
                      (try clear hi)
                      (try clear ho0)
                      obtain ⟨Ao55, co55, eo55⟩ := Kd.R_slice HO413.out
                      (first | subst eo55 | (injection eo55 with f1_ f2_ f3_; have f4_ := f1_.symm; have f5_ := f3_.symm; clear f1_ f2_ f3_; subst f4_; subst f5_))
                      refine hK.out _ _ ⟨(blk_cell BK409.out 0).trans rfl, (blk_cell BK409.out 1).trans rfl⟩ (fun hHeld => ?_)
                      clear hK K
                      refine norm_ (a' := ?_) ?_ ?_
                      rotate_left
                      ·show Act.put _ (some 59) _ = _
                       simp only [Act.put, List.setIfInBounds_toArray, List.set_cons_zero, List.set_cons_succ, i64_w, i32_w]
                       rfl
                      refine one_ (i := 5) (N := some 60) #[true, true, true, true, true, true, false, false, false, false, false] rfl rfl (one_of HT_.out (by kernel_rfl)) (by decide) (fun K hK => ?_)
                      refine goes_ Try.func58 (by kernel_rfl) rfl #[.slice A408_0 ((rd_T71 x7_1 x8_1).f0).length c408_0, .slice Ao55 t411.length co55] (by rfl) rfl rfl (by (try simp only [List.map_toArray, List.map_cons, List.map_nil]); first | done | rfl | (simp only [List.length_drop, List.length_take]; rfl)) ?_
                      with_reducible refine (pomaderef07_product.calls k2 _ _ ((rd_T71 x7_1 x8_1).f0) _ _ t411 t414 t415 _ ?side1 ?side2 ?side3 ?side4 A36.out).mono ?_
                      (case side1 => repeat (first | exact (Kd.V_reads' HX.out.1).2.2 | (with_reducible refine Kd.C_alloc ?_ _) | (with_reducible refine Kd.C_drewN ?_ _) | (with_reducible refine Kd.C_drew ?_)))
                      (case side2 => exact HC408_0.out)
                      (case side3 => repeat (first | exact (Kd.R_reads' HO413.out).2.2 | (with_reducible refine Kd.C_alloc ?_ _) | (with_reducible refine Kd.C_drewN ?_ _) | (with_reducible refine Kd.C_drew ?_)))
                      (case side4 => exact (Kd.R_reads' HO413.out).2.1)
                      rintro e w56 ⟨v416, rfl, ho0, hb⟩
                      refine ⟨_, rfl, ?_⟩
                      replace HX := Aside0.mk (XR_below (by (with_reducible repeat (first | refine XR_drewN ?_ _ | refine XR_drew ?_ | refine XR_alloc ?_ _)); exact HX.out) hb)
                      have n0_ := Aside0.mk (Kd.R_below (by (with_reducible repeat (first | apply Kd.R_alloc | apply Kd.R_drewN | apply Kd.R_drew)); exact HO_6.out) hb)
                      have n1_ := Aside0.mk (Kd.N_elder' (by (with_reducible repeat (first | apply Kd.N_alloc | apply Kd.N_drewN | apply Kd.N_drew)); exact HO_7.out) (Kd.R_base ho0) hb)
                      have n2_ := Aside0.mk (Kd.R_elder' (by (with_reducible repeat (first | apply Kd.R_alloc | apply Kd.R_drewN | apply Kd.R_drew)); exact HO413.out) (Kd.R_base ho0) hb)
                      have n3_ := Aside0.mk (Kd.R_lower (Kd.R_new' (Kd.R_newM (M := fun k_ => (w.heap.size ≤ k_)) ho0 (below_size (by repeat (first | (with_reducible first | exact HB.out | apply below_alloc | apply pw_below_drewN | apply below_drew1 | refine below_set ?_ GE409.out) | exact HB.out))) (fun k_ h_ => h_)) (Kd.R_lt (by (with_reducible repeat (first | apply Kd.R_alloc | apply Kd.R_drewN | apply Kd.R_drew)); exact HO413.out))) (below_size (by repeat (first | (with_reducible first | exact HB.out | apply below_alloc | apply pw_below_drewN | apply below_drew1 | refine below_set ?_ GE409.out) | exact HB.out))))
                      have n4_ := Aside0.mk (blk_below (g := gb409) (o := .cells #[.slice A408_0 ((rd_T71 x7_1 x8_1).f0).length c408_0, .slice A408_1 ((rd_T71 x7_1 x8_1).f1).length c408_1] 71 (0, 0)) (by (with_reducible repeat (first | refine blk_drewN ?_ _ | refine blk_drew ?_ | refine blk_alloc ?_ _)); exact BK409.out) hb)
                      have n5_ := Aside0.mk (below_step (by repeat (first | (with_reducible first | exact HB.out | apply below_alloc | apply pw_below_drewN | apply below_drew1 | refine below_set ?_ GE409.out) | exact HB.out)) hb)
                      clear HO_6
                      clear HO_7
                      clear HO413
                      clear BK409
                      clear HB
                      have HO_6 := n0_
                      have HO_7 := n1_
                      have HO413 := n2_
                      have HO417 := n3_
                      have BK409 := n4_
                      have HB := n5_
                      clear n0_ n1_ n2_ n3_ n4_ n5_
                      (try clear hb)
                      (try clear hb2)
                      (try clear hk)
                      (try clear hi)
                      (try clear ho0)
                      refine hK.out _ _ ⟨(blk_cell BK409.out 0).trans rfl, (blk_cell BK409.out 1).trans rfl⟩ (fun hHeld => ?_)
                      clear hK K
                      refine norm_ (a' := ?_) ?_ ?_
                      rotate_left
                      ·show Act.put _ (some 60) _ = _
                       simp only [Act.put, List.setIfInBounds_toArray, List.set_cons_zero, List.set_cons_succ, i64_w, i32_w]
                       rfl
                      refine pure_ (i := 6) (N := some 54) (v := ?_) (a' := ?_) #[true, true, true, true, true, true, true, false, false, false, false] rfl rfl (any_of HT_.out (by kernel_rfl)) (fun _ _ _ h => h) (Or.inl ⟨by rfl, ?_⟩) ?_ ?_
                      rotate_left
                      ·intro w'
                       go_simp
                       with_reducible rfl
                      rotate_left
                      ·simp only [Act.put, List.setIfInBounds_toArray, List.set_cons_zero, List.set_cons_succ, i64_w, i32_w]
                       rfl
                      refine pure_ (i := 7) (N := some 61) (v := ?_) (a' := ?_) #[true, true, true, true, true, true, true, true, false, false, false] rfl rfl (any_of HT_.out (by kernel_rfl)) (fun _ _ _ h => h) (Or.inl ⟨by rfl, ?_⟩) ?_ ?_
                      rotate_left
                      ·intro w'
                       go_simp
                       with_reducible rfl
                      rotate_left
                      ·simp only [Act.put, List.setIfInBounds_toArray, List.set_cons_zero, List.set_cons_succ, i64_w, i32_w]
                       rfl
                      refine pure_ (i := 8) (N := some 62) (v := ?_) (a' := ?_) #[true, true, true, true, true, true, true, true, true, false, false] rfl rfl (any_of HT_.out (by kernel_rfl)) (fun _ _ _ h => h) (Or.inl ⟨by rfl, ?_⟩) ?_ ?_
                      rotate_left
                      ·intro w'
                       go_simp
                       with_reducible rfl
                      rotate_left
                      ·simp only [Act.put, List.setIfInBounds_toArray, List.set_cons_zero, List.set_cons_succ, i64_w, i32_w]
                       rfl
                      refine pure_ (i := 9) (N := some 11) (v := ?_) (a' := ?_) #[true, true, true, true, true, true, true, true, true, true, false] rfl rfl (any_of HT_.out (by kernel_rfl)) (fun _ _ _ h => h) (Or.inl ⟨by rfl, ?_⟩) ?_ ?_
                      rotate_left
                      ·intro w'
                       go_simp
                       with_reducible rfl
                      rotate_left
                      ·simp only [Act.put, List.setIfInBounds_toArray, List.set_cons_zero, List.set_cons_succ, i64_w, i32_w]
                       rfl
                      refine pure_ (i := 10) (N := some 12) (v := ?_) (a' := ?_) #[true, true, true, true, true, true, true, true, true, true, true] rfl rfl (any_of HT_.out (by kernel_rfl)) (fun _ _ _ h => h) (Or.inl ⟨by rfl, ?_⟩) ?_ ?_
                      rotate_left
                      ·intro w'
                       go_simp
                       with_reducible rfl
                      rotate_left
                      ·simp only [Act.put, List.setIfInBounds_toArray, List.set_cons_zero, List.set_cons_succ, i64_w, i32_w]
                       rfl
                      refine done_ (done_of HT_.out (by kernel_rfl)) ?_
                      obtain ⟨Ao57, co57, eo57⟩ := Kd.R_slice HO417.out
                      subst eo57
                      try go_wp2_with (first | ((with_reducible refine gate_callee (f := 56) rfl ?_); refine goesL_ (some 65) rfl rfl Try.func56 (by kernel_rfl) rfl #[.slice Ao57 t414.length co57] rfl (by (try simp only [List.map_toArray, List.map_cons, List.map_nil]); first | done | rfl | (simp only [List.length_drop, List.length_take]; rfl)) ?_; (with_reducible refine (pomaderef07_place.calls k2 _ _ t414 t418 _ ?side1 ?side2 A37.out).mono ?_); (case side1 => repeat (first | exact (Kd.R_reads' HO417.out).2.2 | (with_reducible refine Kd.C_alloc ?_ _) | (with_reducible refine Kd.C_drewN ?_ _) | (with_reducible refine Kd.C_drew ?_))); (case side2 => exact (Kd.R_reads' HO417.out).2.1); rintro e w' ⟨rfl, ⟨nd, rfl⟩⟩; refine ⟨_, rfl, ?_⟩; (try (rw [drewN_self w56]; generalize hq_ : World.drewN w56 _ = w56; replace HX := Aside0.mk (XR_to hq_ HX.out); have n0_ : Aside0 (Kd.R (Kd.int .i64) 3 w56 w.heap.size (fun k_ => (w.heap.size ≤ k_) ∧ some k_ ≠ (.slice Ao57 t414.length co57 : Value).ownBlock) (.slice Ao55 t411.length co55) t411) := ⟨by rw [← hq_]; exact (by (with_reducible repeat (first | apply Kd.R_alloc | apply Kd.R_drewN | apply Kd.R_drew)); exact Kd.R_mono HO413.out (fun _ hk => by first | exact ⟨hk.1.1, hk.2⟩ | exact hk | exact ⟨hk.1, hk.2⟩))⟩; have n1_ : Aside0 (Kd.R (Kd.int .i64) 3 w56 w.heap.size (fun k_ => (w.heap.size ≤ k_) ∧ some k_ ≠ (.slice Ao55 t411.length co55 : Value).ownBlock) (.slice Ao57 t414.length co57) t414) := ⟨by rw [← hq_]; exact (by (with_reducible repeat (first | apply Kd.R_alloc | apply Kd.R_drewN | apply Kd.R_drew)); exact Kd.R_mono HO417.out (fun _ hk => by first | exact ⟨hk.1.1, hk.2⟩ | exact hk | exact ⟨hk.1, hk.2⟩))⟩; have n2_ : Aside0 (Kd.R Kd.bool 4 w56 w.heap.size (fun k_ => (w.heap.size ≤ k_)) (.slice (some ⟨go14, 0, none⟩) x6_2.length co14) x6_2) := ⟨by rw [← hq_]; exact (by (with_reducible repeat (first | apply Kd.R_alloc | apply Kd.R_drewN | apply Kd.R_drew)); exact HO_6.out)⟩; have n3_ : Aside0 (Kd.N k71 71 w56 w.heap.size (fun k_ => (w.heap.size ≤ k_) ∧ some k_ ≠ (.slice Ao55 t411.length co55 : Value).ownBlock ∧ some k_ ≠ (.slice Ao57 t414.length co57 : Value).ownBlock ∧ some k_ ≠ (.slice (some ⟨go14, 0, none⟩) x6_2.length co14 : Value).ownBlock ∧ k_ ≠ gb409) u7 x7_2) := ⟨by rw [← hq_]; exact (by (with_reducible repeat (first | apply Kd.N_alloc | apply Kd.N_drewN | apply Kd.N_drew)); exact Kd.N_mono HO_7.out (fun _ hk => by first | exact ⟨hk.1.1.1, ⟨hk.1.2, ⟨hk.2, ⟨hk.1.1.2.1, hk.1.1.2.2⟩⟩⟩⟩ | exact hk | grind))⟩; have n4_ : Aside0 (w56.heap[gb409]? = some (.cells #[.slice A408_0 ((rd_T71 x7_1 x8_1).f0).length c408_0, .slice A408_1 ((rd_T71 x7_1 x8_1).f1).length c408_1] 71 (0, 0))) := ⟨by rw [← hq_]; exact (by (with_reducible repeat (first | refine blk_drewN ?_ _ | refine blk_drew ?_ | refine blk_alloc ?_ _)); exact BK409.out)⟩; have n5_ : Aside0 (Below w.heap.size w w56) := ⟨by rw [← hq_]; exact (by repeat (first | (with_reducible first | exact HB.out | apply below_alloc | apply pw_below_drewN | apply below_drew1 | refine below_set ?_ GE409.out) | exact HB.out))⟩; clear HO413 HO417 HO_6 HO_7 BK409 HB hq_; have HO413 := n0_; have HO417 := n1_; have HO_6 := n2_; have HO_7 := n3_; have BK409 := n4_; have HB := n5_; clear n0_ n1_ n2_ n3_ n4_ n5_)); have p419 : 0 ≤ (t418 : Int) := of_decide_eq_true (by first | (with_reducible assumption) | assumption); have q419 : t418 < (x6_2.length : Int) := of_decide_eq_true (by first | (with_reducible assumption) | assumption); obtain ⟨ad419, e419, hx419_0⟩ := Kd.at_bool (Kd.R_reads' HO_6.out).2.2 t418 p419 q419; (try rw [← Nbq40.out] at hx419_0); obtain rfl : (⟨go14, 0, none⟩ : Addr) = ad419 := (by injection e419); (first | simp only [add_plain] at hx419_0 | simp only [add_at] at hx419_0 | simp only [Addr.add, Nat.zero_add] at hx419_0 | skip); replace p419 := eq_true p419; replace q419 := eq_true q419) | ((with_reducible refine gate_callee (f := 56) rfl ?_); refine goesL_ (some 71) rfl rfl Try.func56 (by kernel_rfl) rfl #[.slice Ao57 t414.length co57] rfl (by (try simp only [List.map_toArray, List.map_cons, List.map_nil]); first | done | rfl | (simp only [List.length_drop, List.length_take]; rfl)) ?_; (with_reducible refine (pomaderef07_place.calls k2 _ _ t414 t420 _ ?side1 ?side2 A47.out).mono ?_); (case side1 => repeat (first | exact (Kd.R_reads' HO417.out).2.2 | (with_reducible refine Kd.C_alloc ?_ _) | (with_reducible refine Kd.C_drewN ?_ _) | (with_reducible refine Kd.C_drew ?_))); (case side2 => exact (Kd.R_reads' HO417.out).2.1); rintro e w' ⟨rfl, ⟨nd, rfl⟩⟩; refine ⟨_, rfl, ?_⟩; (try (rw [drewN_self w56]; generalize hq_ : World.drewN w56 _ = w56; replace HX := Aside0.mk (XR_to hq_ HX.out); have n0_ : Aside0 (Kd.R (Kd.int .i64) 3 w56 w.heap.size (fun k_ => (w.heap.size ≤ k_) ∧ some k_ ≠ (.slice Ao57 t414.length co57 : Value).ownBlock) (.slice Ao55 t411.length co55) t411) := ⟨by rw [← hq_]; exact (by (with_reducible repeat (first | apply Kd.R_alloc | apply Kd.R_drewN | apply Kd.R_drew)); exact Kd.R_mono HO413.out (fun _ hk => by first | exact ⟨hk.1.1, hk.2⟩ | exact hk | exact ⟨hk.1, hk.2⟩))⟩; have n1_ : Aside0 (Kd.R (Kd.int .i64) 3 w56 w.heap.size (fun k_ => (w.heap.size ≤ k_) ∧ some k_ ≠ (.slice Ao55 t411.length co55 : Value).ownBlock) (.slice Ao57 t414.length co57) t414) := ⟨by rw [← hq_]; exact (by (with_reducible repeat (first | apply Kd.R_alloc | apply Kd.R_drewN | apply Kd.R_drew)); exact Kd.R_mono HO417.out (fun _ hk => by first | exact ⟨hk.1.1, hk.2⟩ | exact hk | exact ⟨hk.1, hk.2⟩))⟩; have n2_ : Aside0 (Kd.R Kd.bool 4 w56 w.heap.size (fun k_ => (w.heap.size ≤ k_)) (.slice (some ⟨go14, 0, none⟩) x6_2.length co14) x6_2) := ⟨by rw [← hq_]; exact (by (with_reducible repeat (first | apply Kd.R_alloc | apply Kd.R_drewN | apply Kd.R_drew)); exact HO_6.out)⟩; have n3_ : Aside0 (Kd.N k71 71 w56 w.heap.size (fun k_ => (w.heap.size ≤ k_) ∧ some k_ ≠ (.slice Ao55 t411.length co55 : Value).ownBlock ∧ some k_ ≠ (.slice Ao57 t414.length co57 : Value).ownBlock ∧ some k_ ≠ (.slice (some ⟨go14, 0, none⟩) x6_2.length co14 : Value).ownBlock ∧ k_ ≠ gb409) u7 x7_2) := ⟨by rw [← hq_]; exact (by (with_reducible repeat (first | apply Kd.N_alloc | apply Kd.N_drewN | apply Kd.N_drew)); exact Kd.N_mono HO_7.out (fun _ hk => by first | exact ⟨hk.1.1.1, ⟨hk.1.2, ⟨hk.2, ⟨hk.1.1.2.1, hk.1.1.2.2⟩⟩⟩⟩ | exact hk | grind))⟩; have n4_ : Aside0 (w56.heap[gb409]? = some (.cells #[.slice A408_0 ((rd_T71 x7_1 x8_1).f0).length c408_0, .slice A408_1 ((rd_T71 x7_1 x8_1).f1).length c408_1] 71 (0, 0))) := ⟨by rw [← hq_]; exact (by (with_reducible repeat (first | refine blk_drewN ?_ _ | refine blk_drew ?_ | refine blk_alloc ?_ _)); exact BK409.out)⟩; have n5_ : Aside0 (Below w.heap.size w w56) := ⟨by rw [← hq_]; exact (by repeat (first | (with_reducible first | exact HB.out | apply below_alloc | apply pw_below_drewN | apply below_drew1 | refine below_set ?_ GE409.out) | exact HB.out))⟩; clear HO413 HO417 HO_6 HO_7 BK409 HB hq_; have HO413 := n0_; have HO417 := n1_; have HO_6 := n2_; have HO_7 := n3_; have BK409 := n4_; have HB := n5_; clear n0_ n1_ n2_ n3_ n4_ n5_)); have p50 : 0 ≤ (t420 : Int) := of_decide_eq_true (by first | (with_reducible assumption) | assumption); have q50 : (t420 : Int) < ((x6_2.length : Int) : Int) := of_decide_eq_true (by first | (with_reducible assumption) | assumption); obtain ⟨hx50_0, hf50_0⟩ := Kd.R_celln false HO_6.out (t420 : Int) p50 q50; replace p50 := eq_true p50; replace q50 := eq_true q50; obtain ⟨hy58_, hz58_⟩ := Kd.R_celln false HO_6.out (t420 : Int) (of_decide_eq_true (by first | (with_reducible assumption) | assumption)) (of_decide_eq_true (by first | (with_reducible assumption) | assumption)); have HP58 := Kd.R_putg HO_6.out (t420 : Int) true) | ((with_reducible refine gate_store (t := 4) (p := 72) rfl ?_); refine store_event (t := 4) (p := 72) (v := ?vo_w59) (w1 := (w56.setCell ⟨go14, (t420 : Int).toNat, none⟩ (.bool true))) ?hg ?ho ?hn ?hr ?_; (case ho => rfl); (case hg => rfl); (case hn => rfl); (case hr => first | (go_simp; done) | (go_simp; rfl)); intro w59 hw; have hg : w56.grownBy w59 (some go14) := (by rw [hw]; exact HP58.2); replace HX := Aside0.mk (XR_grown (ok := (fun k_ => (w.heap.size ≤ k_ ∧ some k_ ≠ some go14) ∧ some k_ ≠ (u7 : Value).ownBlock)) (by (with_reducible repeat (first | refine XR_drewN ?_ _ | refine XR_drew ?_ | refine XR_alloc ?_ _)); exact HX.out) hg (fun _ hk => hk.1.2)); have hp_ : Kd.R Kd.bool 4 w59 w.heap.size (fun k_ => (w.heap.size ≤ k_)) (.slice (some ⟨go14, 0, none⟩) x6_2.length co14) y421 := (by rw [hw, Ny421.out]; exact HP58.1); clear HP58; have n0_ := Aside0.mk (hp_); have n1_ := Aside0.mk (Kd.N_afterv (v := (.slice (some ⟨go14, 0, none⟩) x6_2.length co14)) (v1 := (.slice (some ⟨go14, 0, none⟩) x6_2.length co14)) (ok := (fun k_ => (w.heap.size ≤ k_) ∧ some k_ ≠ (.slice Ao55 t411.length co55 : Value).ownBlock ∧ some k_ ≠ (.slice Ao57 t414.length co57 : Value).ownBlock ∧ k_ ≠ gb409)) (by (with_reducible repeat (first | apply Kd.N_alloc | apply Kd.N_drewN | apply Kd.N_drew)); exact Kd.N_mono HO_7.out (fun _ hk => by first | exact ⟨⟨hk.1.1.1, ⟨hk.1.2, ⟨hk.2, hk.1.1.2.2⟩⟩⟩, hk.1.1.2.1⟩ | exact hk | grind)) hg (.inl rfl)); have n2_ := Aside0.mk (blk_grown (g := gb409) (o := .cells #[.slice A408_0 ((rd_T71 x7_1 x8_1).f0).length c408_0, .slice A408_1 ((rd_T71 x7_1 x8_1).f1).length c408_1] 71 (0, 0)) (by (with_reducible repeat (first | refine blk_drewN ?_ _ | refine blk_drew ?_ | refine blk_alloc ?_ _)); exact BK409.out) hg (Kd.R_ne HO_6.out BK409.out (by decide))); have n3_ := Aside0.mk (Kd.R_over' (v := (.slice (some ⟨go14, 0, none⟩) x6_2.length co14)) (by (with_reducible repeat (first | apply Kd.R_alloc | apply Kd.R_drewN | apply Kd.R_drew)); exact HO413.out) (Kd.R_typed HO_6.out) (by decide) hg); have n4_ := Aside0.mk (Kd.R_over' (v := (.slice (some ⟨go14, 0, none⟩) x6_2.length co14)) (by (with_reducible repeat (first | apply Kd.R_alloc | apply Kd.R_drewN | apply Kd.R_drew)); exact HO417.out) (Kd.R_typed HO_6.out) (by decide) hg); have n5_ := Aside0.mk ((by rw [hw]; exact below_set (HB.out) GB14.out : Below w.heap.size w w59)); clear HO_6; clear HO_7; clear BK409; clear HO413; clear HO417; clear HB; have HO_6 := n0_; have HO_7 := n1_; have BK409 := n2_; have HO413 := n3_; have HO417 := n4_; have HB := n5_; clear n0_ n1_ n2_ n3_ n4_ n5_; clear hg hw hp_; have hcz60_0 : w59.cell? ⟨gb409, 0, none⟩ = some (.slice A408_0 ((rd_T71 x7_1 x8_1).f0).length c408_0) := (blk_cell BK409.out 0).trans rfl; have hcz60_1 : w59.cell? ⟨gb409, 1, none⟩ = some (.slice A408_1 ((rd_T71 x7_1 x8_1).f1).length c408_1) := (blk_cell BK409.out 1).trans rfl; have hfz60_0 := blk_frozen BK409.out 0; have hfz60_1 := blk_frozen BK409.out 1; have hcl_ := eq_true HC408_1.out) | ((with_reducible refine gate_builtin (b := .append) (xs := #[.tmp 83, .tmp 85]) rfl ?_); at_builtin; refine cap_append rfl (.tmp 83) (.tmp 85) 22 rfl Try.underlying22 info3 A408_1 ((rd_T71 x7_1 x8_1).f1) x10_2 rfl ?hA rfl ?hC ?hl ?_; (case hA => exact row_none (Kd.V_reads' HX.out.2).2.2); (case hC => exact (Kd.V_reads' HX.out.2).2.2); (case hl => exact cap_len A51.out); intro v423 w61 ho0 hb; rw [cap_list A51.out] at ho0; replace HX := Aside0.mk (XR_below HX.out hb); have n0_ := Aside0.mk (Kd.R_below (by (with_reducible repeat (first | apply Kd.R_alloc | apply Kd.R_drewN | apply Kd.R_drew)); exact HO_6.out) hb); have n1_ := Aside0.mk (Kd.N_elder' (by (with_reducible repeat (first | apply Kd.N_alloc | apply Kd.N_drewN | apply Kd.N_drew)); exact HO_7.out) (Kd.R_base ho0) hb); have n2_ := Aside0.mk (Kd.R_elder' (by (with_reducible repeat (first | apply Kd.R_alloc | apply Kd.R_drewN | apply Kd.R_drew)); exact HO413.out) (Kd.R_base ho0) hb); have n3_ := Aside0.mk (Kd.R_elder' (by (with_reducible repeat (first | apply Kd.R_alloc | apply Kd.R_drewN | apply Kd.R_drew)); exact HO417.out) (Kd.R_base ho0) hb); have n4_ := Aside0.mk (Kd.R_lower (Kd.R_new' (Kd.R_new' (Kd.R_newM (M := fun k_ => (w.heap.size ≤ k_)) ho0 (below_size (by repeat (first | (with_reducible first | exact HB.out | apply below_alloc | apply pw_below_drewN | apply below_drew1 | refine below_set ?_ GE409.out) | exact HB.out))) (fun k_ h_ => h_)) (Kd.R_lt (by (with_reducible repeat (first | apply Kd.R_alloc | apply Kd.R_drewN | apply Kd.R_drew)); exact HO413.out))) (Kd.R_lt (by (with_reducible repeat (first | apply Kd.R_alloc | apply Kd.R_drewN | apply Kd.R_drew)); exact HO417.out))) (below_size (by repeat (first | (with_reducible first | exact HB.out | apply below_alloc | apply pw_below_drewN | apply below_drew1 | refine below_set ?_ GE409.out) | exact HB.out)))); have n5_ := Aside0.mk (blk_below (g := gb409) (o := .cells #[.slice A408_0 ((rd_T71 x7_1 x8_1).f0).length c408_0, .slice A408_1 ((rd_T71 x7_1 x8_1).f1).length c408_1] 71 (0, 0)) (by (with_reducible repeat (first | refine blk_drewN ?_ _ | refine blk_drew ?_ | refine blk_alloc ?_ _)); exact BK409.out) hb); have n6_ := Aside0.mk (below_step (by repeat (first | (with_reducible first | exact HB.out | apply below_alloc | apply pw_below_drewN | apply below_drew1 | refine below_set ?_ GE409.out) | exact HB.out)) hb); clear HO_6; clear HO_7; clear HO413; clear HO417; clear BK409; clear HB; have HO_6 := n0_; have HO_7 := n1_; have HO413 := n2_; have HO417 := n3_; have HO424 := n4_; have BK409 := n5_; have HB := n6_; clear n0_ n1_ n2_ n3_ n4_ n5_ n6_; (try clear hb); (try clear hb2); (try clear hk); (try clear hi); (try clear ho0); obtain ⟨Ao62, co62, eo62⟩ := Kd.R_slice HO424.out; subst eo62) | ((with_reducible refine gate_builtin (b := .append) (xs := #[.tmp 73, .tmp 88]) rfl ?_); at_builtin; refine Kd.N_append k71 (w0 := w) w.heap.size rfl (.tmp 73) (.tmp 88) 72 71 (.agg #[(.slice none 0 0), (.slice none 0 0)]) 48 rfl Try.underlying72 info71 rfl (by decide) (by omega) u7 x7_2 (⟨t414, t422⟩ : S71) [.slice Ao57 t414.length co57, .slice Ao62 t422.length co62] (fun k_ => (w.heap.size ≤ k_) ∧ some k_ ≠ (.slice (some ⟨go14, 0, none⟩) x6_2.length co14 : Value).ownBlock ∧ some k_ ≠ (.slice Ao55 t411.length co55 : Value).ownBlock ∧ k_ ≠ gb409) (fun k_ => ((fun k_ => (w.heap.size ≤ k_) ∧ some k_ ≠ (.slice (some ⟨go14, 0, none⟩) x6_2.length co14 : Value).ownBlock ∧ some k_ ≠ (.slice Ao55 t411.length co55 : Value).ownBlock ∧ k_ ≠ gb409)) k_ ∧ some k_ ≠ (u7 : Value).ownBlock) rfl rfl ?aP (fun _ hk => hk) ?aF ?aO ?aB ?aS ?aL ?_; (case aP => exact (k71_mkF _ _ (⟨t414, t422⟩ : S71) (Kd.R_reads' (Kd.R_mono (ok' := (fun k_ => ((fun k_ => (w.heap.size ≤ k_) ∧ some k_ ≠ (.slice (some ⟨go14, 0, none⟩) x6_2.length co14 : Value).ownBlock ∧ some k_ ≠ (.slice Ao55 t411.length co55 : Value).ownBlock ∧ k_ ≠ gb409)) k_ ∧ some k_ ≠ (u7 : Value).ownBlock)) (Kd.R_types (Kd.R_apart' (Kd.R_apart' (HO417.out) (Kd.R_typed HO_6.out) (by decide)) (Kd.N_typed HO_7.out) (by decide)) BK409.out (by decide)) (fun k_ hk => by first | exact ⟨⟨hk.1.1.1.1.1.1, ⟨hk.1.1.2, ⟨hk.1.1.1.1.2, hk.2⟩⟩⟩, hk.1.2⟩ | exact hk | grind))).2.1 (Kd.R_F (Kd.R_mono (ok' := (fun k_ => ((fun k_ => (w.heap.size ≤ k_) ∧ some k_ ≠ (.slice (some ⟨go14, 0, none⟩) x6_2.length co14 : Value).ownBlock ∧ some k_ ≠ (.slice Ao55 t411.length co55 : Value).ownBlock ∧ k_ ≠ gb409)) k_ ∧ some k_ ≠ (u7 : Value).ownBlock)) (Kd.R_types (Kd.R_apart' (Kd.R_apart' (HO417.out) (Kd.R_typed HO_6.out) (by decide)) (Kd.N_typed HO_7.out) (by decide)) BK409.out (by decide)) (fun k_ hk => by first | exact ⟨⟨hk.1.1.1.1.1.1, ⟨hk.1.1.2, ⟨hk.1.1.1.1.2, hk.2⟩⟩⟩, hk.1.2⟩ | exact hk | grind))) (Kd.R_reads' (Kd.R_mono (ok' := (fun k_ => ((fun k_ => (w.heap.size ≤ k_) ∧ some k_ ≠ (.slice (some ⟨go14, 0, none⟩) x6_2.length co14 : Value).ownBlock ∧ some k_ ≠ (.slice Ao55 t411.length co55 : Value).ownBlock ∧ k_ ≠ gb409)) k_ ∧ some k_ ≠ (u7 : Value).ownBlock)) (Kd.R_types (Kd.R_apart' (Kd.R_apart' (HO424.out) (Kd.R_typed HO_6.out) (by decide)) (Kd.N_typed HO_7.out) (by decide)) BK409.out (by decide)) (fun k_ hk => by first | exact ⟨⟨hk.1.1.1.1.1.1, ⟨hk.1.1.2, ⟨hk.1.1.1.1.2, hk.2⟩⟩⟩, hk.1.2⟩ | exact hk | grind))).2.1 (Kd.R_F (Kd.R_mono (ok' := (fun k_ => ((fun k_ => (w.heap.size ≤ k_) ∧ some k_ ≠ (.slice (some ⟨go14, 0, none⟩) x6_2.length co14 : Value).ownBlock ∧ some k_ ≠ (.slice Ao55 t411.length co55 : Value).ownBlock ∧ k_ ≠ gb409)) k_ ∧ some k_ ≠ (u7 : Value).ownBlock)) (Kd.R_types (Kd.R_apart' (Kd.R_apart' (HO424.out) (Kd.R_typed HO_6.out) (by decide)) (Kd.N_typed HO_7.out) (by decide)) BK409.out (by decide)) (fun k_ hk => by first | exact ⟨⟨hk.1.1.1.1.1.1, ⟨hk.1.1.2, ⟨hk.1.1.1.1.2, hk.2⟩⟩⟩, hk.1.2⟩ | exact hk | grind))))); (case aB => exact (by repeat (first | (with_reducible first | exact HB.out | apply below_alloc | apply pw_below_drewN | apply below_drew1 | refine below_set ?_ GE409.out) | exact HB.out))); (case aF => exact (fun k_ hk => ⟨(Nat.le_trans (below_size (by repeat (first | (with_reducible first | exact HB.out | apply below_alloc | apply pw_below_drewN | apply below_drew1 | refine below_set ?_ GE409.out) | exact HB.out))) hk), Kd.fresh' (Kd.R_lt (by (with_reducible repeat (first | apply Kd.R_alloc | apply Kd.R_drewN | apply Kd.R_drew)); exact HO_6.out)) k_ hk, Kd.fresh' (Kd.R_lt (by (with_reducible repeat (first | apply Kd.R_alloc | apply Kd.R_drewN | apply Kd.R_drew)); exact HO413.out)) k_ hk, Kd.freshB (g := gb409) (o := .cells #[.slice A408_0 ((rd_T71 x7_1 x8_1).f0).length c408_0, .slice A408_1 ((rd_T71 x7_1 x8_1).f1).length c408_1] 71 (0, 0)) (by (with_reducible repeat (first | refine blk_drewN ?_ _ | refine blk_drew ?_ | refine blk_alloc ?_ _)); exact BK409.out) k_ hk⟩)); (case aO => exact (by (with_reducible repeat (first | apply Kd.N_alloc | apply Kd.N_drewN | apply Kd.N_drew)); exact Kd.N_mono HO_7.out (fun _ hk => by first | exact ⟨hk.1.1.1, ⟨hk.1.2, ⟨hk.1.1.2.1, hk.1.1.2.2.2⟩⟩⟩ | exact hk | grind))); (case aS => exact (below_size (by repeat (first | (with_reducible first | exact HB.out | apply below_alloc | apply pw_below_drewN | apply below_drew1 | refine below_set ?_ GE409.out) | exact HB.out)))); (case aL => have := LMc52.out; omega); intro v426 w63 ho hb hg hat; replace HX := Aside0.mk (XR_after (v1 := v426) (by (with_reducible repeat (first | refine XR_drewN ?_ _ | refine XR_drew ?_ | refine XR_alloc ?_ _)); exact HX.out) hg hat); rw [← Ny425.out] at ho; have n0_ := Aside0.mk (Kd.R_over' (by (with_reducible repeat (first | apply Kd.R_alloc | apply Kd.R_drewN | apply Kd.R_drew)); exact HO_6.out) (Kd.N_typed (by (with_reducible repeat (first | apply Kd.N_alloc | apply Kd.N_drewN | apply Kd.N_drew)); exact HO_7.out)) (by decide) hg); have n1_ := Aside0.mk (blk_grown (g := gb409) (o := .cells #[.slice A408_0 ((rd_T71 x7_1 x8_1).f0).length c408_0, .slice A408_1 ((rd_T71 x7_1 x8_1).f1).length c408_1] 71 (0, 0)) (by (with_reducible repeat (first | refine blk_drewN ?_ _ | refine blk_drew ?_ | refine blk_alloc ?_ _)); exact BK409.out) hg (Kd.N_away HO_7.out (fun _ hk => hk.1.1.2.2.2))); have n2_ := Aside0.mk (Kd.R_over' (by (with_reducible repeat (first | apply Kd.R_alloc | apply Kd.R_drewN | apply Kd.R_drew)); exact HO413.out) (Kd.N_typed (by (with_reducible repeat (first | apply Kd.N_alloc | apply Kd.N_drewN | apply Kd.N_drew)); exact HO_7.out)) (by decide) hg); have n3_ := Aside0.mk (hb); have n4_ := Aside0.mk (ho); clear HO_6; clear BK409; clear HO413; clear HB; clear HO_7; clear HO417; clear HO424; have HO_6 := n0_; have BK409 := n1_; have HO413 := n2_; have HB := n3_; have HO427 := n4_; clear n0_ n1_ n2_ n3_ n4_; clear ho hb hg hat))
                      (try simp only [← hl6_2])
                      go_roundg k2
                      case measure => have := HK1.out; have := HK2.out; omega
                      case rel => exact ⟨(y421), (y425), (wrap64 (x10_2 + 1)), (by first | rfl | (simp; done) | (simp [*]; done)), H', ⟨by have := HK1.out; have := HK2.out; omega⟩, ⟨by (try simp only [hl6_1]); (try simp only [hl6_2]); (with_reducible repeat (first | apply Kd.R_alloc | apply Kd.R_drewN | apply Kd.R_drew)); exact HO_6.out⟩, ⟨by (try simp only [hl6_1]); (try simp only [hl6_2]); (with_reducible repeat (first | apply Kd.N_alloc | apply Kd.N_drewN | apply Kd.N_drew)); exact Kd.N_mono HO427.out (fun _ hk => ⟨hk.1, ⟨hk.2.1, hk.2.2.2⟩⟩)⟩, ⟨by (try simp only [hl6_1]); (try simp only [hl6_2]); (with_reducible repeat (first | refine blk_drewN ?_ _ | refine blk_drew ?_ | refine blk_alloc ?_ _)); exact BK409.out⟩, ⟨by (try simp only [hl6_1]); (try simp only [hl6_2]); (with_reducible repeat (first | refine XR_drewN ?_ _ | refine XR_drew ?_ | refine XR_alloc ?_ _)); exact HX.out⟩, ⟨by repeat (first | (with_reducible first | exact HB.out | apply below_alloc | apply pw_below_drewN | apply below_drew1 | refine below_set ?_ GE409.out) | exact HB.out)⟩⟩
                     ·rw [if_neg c52] at H
                      exact absurd H (by simp)
                    ·rw [if_neg c49] at H
                     exact absurd H (by simp)
                   ·rw [if_neg c48] at H
                    exact absurd H (by simp)
                 ·rw [if_neg c39] at H
                  exact absurd H (by simp)
                ·rw [if_neg c38] at H
                 exact absurd H (by simp)
               ·rw [if_neg c34] at H
                have c34b0 : decide ((wrap64 (x10_2 + 1)) < (wrap64 ((l0.length : Int) / 2))) = false := decide_eq_false c34
                clear c34
                have H' := Aside0.mk H
                clear H
                go_wp2
                (try simp only [← hl6_1, ← hl6_2])
                go_roundg k2
                case measure => have := HK1.out; have := HK2.out; omega
                case rel => exact ⟨(x6_2), (x7_2), (wrap64 (x8_1 + 1)), (by first | rfl | (simp; done) | (simp [*]; done)), H', ⟨by have := HK1.out; have := HK2.out; omega⟩, ⟨by (try simp only [hl6_1]); (try simp only [hl6_2]); (with_reducible repeat (first | apply Kd.R_alloc | apply Kd.R_drewN | apply Kd.R_drew)); exact HO_6.out⟩, ⟨by (try simp only [hl6_1]); (try simp only [hl6_2]); (with_reducible repeat (first | apply Kd.N_alloc | apply Kd.N_drewN | apply Kd.N_drew)); exact Kd.N_mono HO_7.out (fun _ hk => ⟨hk.1, hk.2.1⟩)⟩, ⟨by repeat (first | (with_reducible first | exact HB.out | apply below_alloc | apply pw_below_drewN | apply below_drew1 | refine below_set ?_ GE409.out) | exact HB.out)⟩⟩
           ·rw [if_neg c25] at H
            exact absurd H (by simp)
          ·rw [if_neg c24] at H
           exact absurd H (by simp)
       ·rw [if_neg c13] at H
        exact absurd H (by simp)
      ·rw [if_neg c12] at H
       exact absurd H (by simp)
     ·rw [if_neg c10] at H
      exact absurd H (by simp)
    ·rw [if_neg c8] at H
     exact absurd H (by simp)
   ·rw [if_neg c7] at H
    exact absurd H (by simp)
  ·rw [if_neg c5] at H
   exact absurd H (by simp)
 ·rw [if_neg c3] at H
  have c3b0 : (t395 == 0) = false := beq_eq_false_iff_ne.mpr c3
  have c3b1 : (t395 != 0) = true := bne_iff_ne.mpr c3
  simp only [Option.some.injEq, Prod.mk.injEq] at H
  obtain ⟨rfl, rfl⟩ := H
  go_enter Try.func22, Try.ntmps22
  go_wp2_with (first | ((with_reducible refine gate_callee (f := 19) rfl ?_); refine goesL_ (some 14) rfl rfl Try.func19 (by kernel_rfl) rfl #[.slice A0 l0.length c0] rfl (by (try simp only [List.map_toArray, List.map_cons, List.map_nil]); first | done | rfl | (simp only [List.length_drop, List.length_take]; rfl)) ?_; (with_reducible refine (pomaderef07_Diagram.calls k _ _ l0 t395 _ ?side1 ?side2 A2.out).mono ?_); (case side1 => repeat (first | exact HR0.out | (with_reducible refine Kd.C_alloc ?_ _) | (with_reducible refine Kd.C_drewN ?_ _) | (with_reducible refine Kd.C_drew ?_))); (case side2 => exact HC0.out); rintro e w' ⟨rfl, ⟨nd, rfl⟩⟩; refine ⟨_, rfl, ?_⟩))
  go_ret2
  exact ⟨_, by first | rfl | (simp [errW_none, errW_some] <;> rfl) | (simp [*, errW_none, errW_some] <;> rfl), Kd.V_nil _ _ _ _ _, by repeat (first | (with_reducible first | exact HB.out | apply below_alloc | apply pw_below_drewN | apply below_drew1) | exact HB.out)⟩
end Go.Proofs.Ytjfkompfkgjdaaa.PC
end
section
/- strings.Repeat: its contract, out of the library's own (laid by the kit's program at this dump, in plain words). -/
namespace Go.Proofs.Ytjfkompfkgjdaaa.PC
open Go.Shelf
def lays105_ren : Go.Shelf.Ren := ⟨fun | 105 => 59 | 212 => 80 | 99 => 81 | 165 => 82 | 166 => 83 | 170 => 84 | 169 => 85 | 263 => 90 | 264 => 91 | 206 => 92 | 240 => 93 | 241 => 94 | 276 => 96 | 277 => 97 | n => n, fun | 9 => 9 | 3 => 3 | 4 => 4 | 20 => 20 | 0 => 0 | 46 => 97 | 109 => 98 | 5 => 5 | 72 => 102 | 76 => 106 | 51 => 115 | 146 => 116 | 53 => 118 | 148 => 119 | 70 => 100 | 37 => 60 | 75 => 105 | 127 => 121 | 164 => 123 | 80 => 108 | n => n, fun | n => n⟩
theorem lays105 : Go.Proofs.Lays.n105 Try.prog lays105_ren := {
  mixed := by kernel_rfl
  f99 := Try.func81.trans (congrArg some (by kernel_rfl))
  f105 := Try.func59.trans (congrArg some (by kernel_rfl))
  f165 := Try.func82.trans (congrArg some (by kernel_rfl))
  f166 := Try.func83.trans (congrArg some (by kernel_rfl))
  f169 := Try.func85.trans (congrArg some (by kernel_rfl))
  f170 := Try.func84.trans (congrArg some (by kernel_rfl))
  f206 := Try.func92.trans (congrArg some (by kernel_rfl))
  f212 := Try.func80.trans (congrArg some (by kernel_rfl))
  f240 := Try.func93.trans (congrArg some (by kernel_rfl))
  f241 := Try.func94.trans (congrArg some (by kernel_rfl))
  f263 := Try.func90.trans (congrArg some (by kernel_rfl))
  f264 := Try.func91.trans (congrArg some (by kernel_rfl))
  f276 := Try.func96.trans (congrArg some (by kernel_rfl))
  f277 := Try.func97.trans (congrArg some (by kernel_rfl))
  t0 := Try.underlying0
  a0 := Try.isAgg0
  z0 := Try.sizeOf0
  v0 := Try.zeroValue0
  t3 := Try.underlying3
  a3 := Try.isAgg3
  z3 := Try.sizeOf3
  v3 := Try.zeroValue3
  t4 := Try.underlying4
  a4 := Try.isAgg4
  z4 := Try.sizeOf4
  v4 := Try.zeroValue4
  t5 := Try.underlying5
  a5 := Try.isAgg5
  z5 := Try.sizeOf5
  v5 := Try.zeroValue5
  t9 := Try.underlying9
  a9 := Try.isAgg9
  z9 := Try.sizeOf9
  v9 := Try.zeroValue9
  t20 := Try.underlying20
  a20 := Try.isAgg20
  z20 := Try.sizeOf20
  v20 := Try.zeroValue20
  t37 := Try.underlying60
  a37 := Try.isAgg60
  z37 := Try.sizeOf60
  v37 := Try.zeroValue60
  t46 := Try.underlying97
  a46 := Try.isAgg97
  z46 := Try.sizeOf97
  v46 := Try.zeroValue97
  t51 := Try.underlying115
  a51 := Try.isAgg115
  z51 := Try.sizeOf115
  v51 := Try.zeroValue115
  t53 := Try.underlying118
  a53 := Try.isAgg118
  z53 := Try.sizeOf118
  v53 := Try.zeroValue118
  t70 := Try.underlying100
  a70 := Try.isAgg100
  z70 := Try.sizeOf100
  v70 := Try.zeroValue100
  t72 := Try.underlying102
  a72 := Try.isAgg102
  z72 := Try.sizeOf102
  v72 := Try.zeroValue102
  t75 := Try.underlying105
  a75 := Try.isAgg105
  z75 := Try.sizeOf105
  v75 := Try.zeroValue105
  t76 := Try.underlying106
  a76 := Try.isAgg106
  z76 := Try.sizeOf106
  v76 := Try.zeroValue106
  t109 := Try.underlying98
  a109 := Try.isAgg98
  z109 := Try.sizeOf98
  v109 := Try.zeroValue98
  t127 := Try.underlying121
  a127 := Try.isAgg121
  z127 := Try.sizeOf121
  v127 := Try.zeroValue121
  t146 := Try.underlying116
  a146 := Try.isAgg116
  z146 := Try.sizeOf116
  v146 := Try.zeroValue116
  t148 := Try.underlying119
  a148 := Try.isAgg119
  z148 := Try.sizeOf119
  v148 := Try.zeroValue119
  t164 := Try.underlying123
  a164 := Try.isAgg123
  z164 := Try.sizeOf123
  v164 := Try.zeroValue123 }
theorem extra105 : Builder.Extra Try.prog lays105_ren := {
  sizeBuilder := by kernel_rfl
  liesBuilder := by kernel_rfl
  t5 := Try.underlying5
  a5 := Try.isAgg5
  z5 := Try.sizeOf5
  v5 := Try.zeroValue5
  infoByte := by kernel_rfl
  cellsByte := by kernel_rfl
  sizeByte := by kernel_rfl
  neB5 := by decide }
open Go.RowKit Go.Lib in
theorem repeat_any (s : ByteArray) (c : Nat) (w : World) (hc : c ≤ 9223372036854775807) (hlen : s.size * c ≤ 140737488355328) :
    Calls Try.prog 59 #[.string s, .int .i64 c] w fun e w' => e = .returned (.string ⟨(Lib.repeatL s.data.toList c).toArray⟩) ∧ Below w.heap.size w w' := Any.strings_Repeat lays105 extra105 s c w hc hlen
end Go.Proofs.Ytjfkompfkgjdaaa.PC
end
section
namespace Go.Proofs.Ytjfkompfkgjdaaa.PC
open Go.RowKit Go.Proofs.YtjfkompfkgjdaaaW.PrintWords Go.Proofs.YtjfkompfkgjdaaaW.PrintLast Go.Proofs.YtjfkompfkgjdaaaW.PrintMore
attribute [local go_sem] max2_int min2_int max_two min_two max_three min_three max_four min_four   -- for this text's walks alone
set_option linter.unusedVariables false
set_option linter.unusedSimpArgs false
/-! ### strings_Repeat: function 59 -/
/-- so many copies -/
def strings_Repeat.f (a0 : ByteArray) (a1 : Int) : Option (ByteArray) := if 0 ≤ a1 ∧ a1 ≤ 1000000 ∧ a0.size ≤ 100 then some ⟨(Lib.repeatL a0.data.toList a1.toNat).toArray⟩ else none
theorem strings_Repeat.calls (a0 : ByteArray) (a1 : Int) (r : ByteArray) (w : World) (h : strings_Repeat.f a0 a1 = some r) :
  Calls Try.prog 59 #[.string a0, .int .i64 a1] w fun e w' => e = .returned (.string r) ∧ Below w.heap.size w w' := by
 unfold strings_Repeat.f at h
 by_cases c : 0 ≤ a1 ∧ a1 ≤ 1000000 ∧ a0.size ≤ 100
 ·rw [if_pos c] at h
  have h := Option.some.inj h
  subst h
  obtain ⟨c1_, c2_, c3_⟩ := c
  obtain ⟨n, rfl⟩ := Int.eq_ofNat_of_zero_le c1_
  exact repeat_any a0 n w (by omega) (Nat.le_trans (Nat.mul_le_mul c3_ (by omega : n ≤ 1000000)) (by omega))
 ·rw [if_neg c] at h
  cases h
end Go.Proofs.Ytjfkompfkgjdaaa.PC
end
section
namespace Go.Proofs.Ytjfkompfkgjdaaa.PC
open Go.RowKit Go.Proofs.YtjfkompfkgjdaaaW.PrintWords Go.Proofs.YtjfkompfkgjdaaaW.PrintLast Go.Proofs.YtjfkompfkgjdaaaW.PrintMore
attribute [local go_sem] max2_int min2_int max_two min_two max_three min_three max_four min_four   -- for this text's walks alone
set_option linter.unusedVariables false
set_option linter.unusedSimpArgs false
/-! ### plait_next: function 60 -/
/-- how many opening brackets -/
def plait_opens (s : ByteArray) : Int := ((s.data.toList.countP (fun c => c == 40) : Nat) : Int)
def plait_ascii (s : ByteArray) : Bool := s.data.toList.all (fun c => decide (c.toNat < 128))
theorem opens_snoc (s : ByteArray) (k : Nat) (h : k < s.size) : (s.data.toList.take (k + 1)).countP (fun c => c == 40) = (s.data.toList.take k).countP (fun c => c == 40) + if (s[k]'h).toNat = 40 then 1 else 0 := by
 have e : s.data.toList.take (k + 1) = s.data.toList.take k ++ [s[k]'h] := by
  rw [List.take_succ_eq_append_getElem (by simpa using h)]; rfl
 rw [e, List.countP_append]
 have e2 : ((s[k]'h) == (40 : UInt8)) = decide ((s[k]'h).toNat = 40) := by
  rw [Bool.eq_iff_iff, beq_iff_eq, decide_eq_true_eq, ← UInt8.toNat_inj]; rfl
 simp [List.countP_cons, e2]
theorem ascii_at {s : ByteArray} (h : plait_ascii s = true) (k : Nat) (hk : k < s.size) : (s[k]'hk).toNat < 128 := by
 have := List.all_eq_true.1 h (s[k]'hk) (by rw [show s[k]'hk = s.data.toList[k]'(by simpa using hk) from rfl]; exact List.getElem_mem _)
 simpa using this
def plait_next.l0 : Nat → ByteArray → Int → Int → Int → Int → List Int → List Int → Int → Int → Option (ByteArray)
 | 0, _, _, _, _, _, _, _, _, _ => none
 | k + 1, x0, x3, x6, x7, x8, x9, x10, x29, x30 => if x30 < x29 then (if 0 ≤ x30 then (if x30 < (x9.length : Int) then ((some (x9.set (x30 : Int).toNat x7 : List Int)).bind fun y195 => (if x30 < (x10.length : Int) then ((some (x10.set (x30 : Int).toNat x6 : List Int)).bind fun y196 => (if x30 < (x0.size : Int) then (if (bt x0 x30) = 40 then (if x7 > 0 then (plait_next.l0 k x0 x3 (wrap64 (x6 + 1)) (wrap64 (x7 + 1)) x30 y195 y196 x29 (wrap64 (x30 + 1))) else (plait_next.l0 k x0 x3 (wrap64 (x6 + 1)) (wrap64 (x7 + 1)) x8 y195 y196 x29 (wrap64 (x30 + 1)))) else (plait_next.l0 k x0 x3 x6 (wrap64 (x7 - 1)) x8 y195 y196 x29 (wrap64 (x30 + 1)))) else (none))) else (none))) else (none)) else (none)) else (if x8 < 0 then (some (⟨#[]⟩ : ByteArray)) else (if 0 ≤ x8 then (if x8 < (x10.length : Int) then (if x8 ≤ (x0.size : Int) then (if (x0.extract 0 (x8 : Int).toNat).size + 1 ≤ 9223372036854775807 then ((strings_Repeat.f (⟨#[40]⟩ : ByteArray) (wrap64 (x3 - (rd x10 x8)))).bind fun t198 => (if ((x0.extract 0 (x8 : Int).toNat) ++ (⟨#[41]⟩ : ByteArray)).size + t198.size ≤ 9223372036854775807 then (if x8 < (x9.length : Int) then ((strings_Repeat.f (⟨#[41]⟩ : ByteArray) (wrap64 ((wrap64 ((rd x9 x8) - 1)) + (wrap64 (x3 - (rd x10 x8)))))).bind fun t200 => (if (((x0.extract 0 (x8 : Int).toNat) ++ (⟨#[41]⟩ : ByteArray)) ++ t198).size + t200.size ≤ 9223372036854775807 then (some ((((x0.extract 0 (x8 : Int).toNat) ++ (⟨#[41]⟩ : ByteArray)) ++ t198) ++ t200)) else (none))) else (none)) else (none))) else (none)) else (none)) else (none)) else (none)))
def plait_next.f (k : Nat) (a0 : ByteArray) : Option (ByteArray) := if plait_ascii a0 = true then (if 0 ≤ (a0.size : Int) then (if ((a0.size : Int) : Int).toNat ≤ 35184372088832 then (plait_next.l0 k a0 (plait_opens a0) 0 0 (-1) (List.replicate ((a0.size : Int) : Int).toNat 0) (List.replicate ((a0.size : Int) : Int).toNat 0) (a0.size : Int) 0) else (none)) else (none)) else none
theorem plait_next.mono_l : ∀ k, (∀ y0 y1 y2 y3 y4 y5 y6 y7 y8, LeO (plait_next.l0 k y0 y1 y2 y3 y4 y5 y6 y7 y8) (plait_next.l0 (k + 1) y0 y1 y2 y3 y4 y5 y6 y7 y8))
 | 0 => fun _ _ _ _ _ _ _ _ _ r h => by simp [plait_next.l0] at h
 | k + 1 => by
  have ih0 := plait_next.mono_l k
  ·intro y0 y1 y2 y3 y4 y5 y6 y7 y8
   unfold plait_next.l0
   repeat' first
   | (with_reducible exact ih0 _ _ _ _ _ _ _ _ _)
   | (with_reducible exact LeO.refl _)
   | (with_reducible exact LeO.none _)
   | (with_reducible refine LeO.ite ?_ ?_)
   | (with_reducible refine LeO.bind ?_ (fun _ => ?_))
   | exact ih0 _ _ _ _ _ _ _ _ _
   | exact LeO.none _
   | refine LeO.ite ?_ ?_
   | refine LeO.bind ?_ (fun _ => ?_)
theorem plait_next.mono : ∀ a0 k, LeO (plait_next.f k a0) (plait_next.f (k + 1) a0) := by
 intro a0 k
 have ih0 := plait_next.mono_l k
 unfold plait_next.f
 repeat' first
   | (with_reducible exact ih0 _ _ _ _ _ _ _ _ _)
   | (with_reducible exact LeO.refl _)
   | (with_reducible exact LeO.none _)
   | (with_reducible refine LeO.ite ?_ ?_)
   | (with_reducible refine LeO.bind ?_ (fun _ => ?_))
   | exact ih0 _ _ _ _ _ _ _ _ _
   | exact LeO.none _
   | refine LeO.ite ?_ ?_
   | refine LeO.bind ?_ (fun _ => ?_)
def plait_next.T25 : Bool × List (List Nat × List Nat) := (true, [([], []), ([], []), ([0, 1], [0, 1]), ([2], [2]), ([], []), ([4], [4]), ([3, 5], [3, 5]), ([], []), ([], []), ([7, 8], [7, 8]), ([9], [9]), ([10], [10]), ([], []), ([11, 12], [11, 12]), ([13, 5], [13]), ([6, 14], [6, 14]), ([15, 14, 0, 1, 2, 3, 4, 5, 6, 7, 8, 9, 10, 11, 12, 13, 14, 15], [15])])
def plait_next.B25 : List Nat := [0, 0, 3, 7, 0, 16, 63, 0, 0, 384, 896, 1920, 0, 8064, 16304, 32767, 65535]
theorem plait_next.tab25 : rtab .any (opsOf Try.f60 25) = plait_next.T25 := by kernel_rfl
theorem plait_next.bits25 : waitsOk plait_next.T25.2 plait_next.B25 = true := by kernel_rfl
set_option maxHeartbeats 8000000 in
set_option maxRecDepth 100000 in
theorem plait_next.calls (k : Nat) (a0 : ByteArray) (r : ByteArray) (w : World) (h : plait_next.f k a0 = some r) :
  Calls Try.prog 60 #[.string a0] w fun e w' => e = .returned (.string r) ∧ Below w.heap.size w w' := by
 have HB := Aside0.mk (Below.refl w.heap.size w)
 have hg : plait_ascii a0 = true := by
  by_cases g : plait_ascii a0 = true
  ·exact g
  ·unfold plait_next.f at h; rw [if_neg g] at h; cases h
 have HASC := Aside0.mk hg
 have H : (if 0 ≤ (a0.size : Int) then (if ((a0.size : Int) : Int).toNat ≤ 35184372088832 then (plait_next.l0 k a0 (plait_opens a0) 0 0 (-1) (List.replicate ((a0.size : Int) : Int).toNat 0) (List.replicate ((a0.size : Int) : Int).toNat 0) (a0.size : Int) 0) else (none)) else (none)) = some r := by unfold plait_next.f at h; rw [if_pos hg] at h; exact h
 clear hg
 clear h
 by_cases c2 : 0 ≤ (a0.size : Int)
 ·rw [if_pos c2] at H
  have c2b0 := eq_true c2
  have c2b1 : decide (0 ≤ (a0.size : Int)) = true := decide_eq_true c2
  clear c2
  by_cases c3 : ((a0.size : Int) : Int).toNat ≤ 35184372088832
  ·rw [if_pos c3] at H
   have c3b0 := eq_true c3
   have c3b1 : decide (((a0.size : Int) : Int).toNat ≤ 35184372088832) = true := decide_eq_true c3
   clear c3
   obtain ⟨y189, hy189⟩ : ∃ y_ : List Int, y_ = (List.replicate ((a0.size : Int) : Int).toNat 0) := ⟨_, rfl⟩
   replace H : (plait_next.l0 k a0 (plait_opens a0) 0 0 (-1) y189 (List.replicate ((a0.size : Int) : Int).toNat 0) (a0.size : Int) 0) = some r := by first | (rw [hy189]; with_reducible exact H) | (have H2_ := (Option.bind_some _ _).symm.trans H; rw [hy189]; with_reducible exact H2_) | (have H2_ := (Option.bind_some _ _).symm.trans H; with_reducible exact H2_) | with_reducible exact H | (rw [hy189]; exact H) | exact H
   have Ny189 := Aside0.mk hy189
   clear hy189
   obtain ⟨y192, hy192⟩ : ∃ y_ : List Int, y_ = (List.replicate ((a0.size : Int) : Int).toNat 0) := ⟨_, rfl⟩
   replace H : (plait_next.l0 k a0 (plait_opens a0) 0 0 (-1) y189 y192 (a0.size : Int) 0) = some r := by first | (rw [hy192]; with_reducible exact H) | (have H2_ := (Option.bind_some _ _).symm.trans H; rw [hy192]; with_reducible exact H2_) | (have H2_ := (Option.bind_some _ _).symm.trans H; with_reducible exact H2_) | with_reducible exact H | (rw [hy192]; exact H) | exact H
   have Ny192 := Aside0.mk hy192
   clear hy192
   have H' := Aside0.mk H
   clear H
   go_enter Try.func60, Try.ntmps60
   go_wp2
   go_loopw [3] (fun n w' => ∃ pos : Nat, pos ≤ a0.size ∧ w' = w.iter a0 pos ∧ n = .int .i64 (((a0.data.toList.take pos).countP (fun c => c == 40) : Nat) : Int)) (fun _ w' => a0.size - w'.iterPos w.heap.size)
   case atStart => exact ⟨0, Nat.zero_le _, rfl, by simp⟩
   case round =>
    obtain ⟨pos, hpos, rfl, rfl⟩ := hrel
    by_cases hp : pos < a0.size
    ·have hsn := opens_snoc a0 pos hp
     have HP := Aside0.mk hp
     have hnx : ∀ ty, (Instr.next (.pointer (some ⟨w.heap.size, 0, none⟩)) true ty).run Try.prog (w.iter a0 pos) = _ := fun ty => run_next_ascii w a0 pos ty hp (ascii_at HASC.out pos hp)
     have hle : (a0.data.toList.take pos).countP (fun c => c == 40) ≤ 35184372088832 := Nat.le_trans List.countP_le_length (by have := of_eq_true c3b0; rw [List.length_take]; omega)
     obtain ⟨c_, hc_⟩ : ∃ c_, (a0.data.toList.take pos).countP (fun c => c == 40) = c_ := ⟨_, rfl⟩
     rw [hc_] at hsn hle ⊢
     by_cases hc : (a0[pos]'hp).toNat = 40
     ·have b1 : (((a0[pos]'hp).toNat : Int) == 40) = true := beq_iff_eq.2 (by omega)
      rw [if_pos hc] at hsn
      have HSN := Aside0.mk hsn
      clear hsn hc hc_
      go_wp2
      go_roundw
      case rel => exact ⟨pos + 1, HP.out, rfl, by rw [HSN.out]; go_num⟩
      case measure => (simp [World.iterPos, World.iter_heap]; have := HP.out; omega)
     ·have b1 : (((a0[pos]'hp).toNat : Int) == 40) = false := beq_eq_false_iff_ne.2 (by omega)
      rw [if_neg hc] at hsn
      have HSN := Aside0.mk hsn
      clear hsn hc hc_
      go_wp2
      go_roundw
      case rel => exact ⟨pos + 1, HP.out, rfl, by rw [HSN.out]; rfl⟩
      case measure => (simp [World.iterPos, World.iter_heap]; have := HP.out; omega)
    ·obtain rfl : pos = a0.size := by omega
     have hnx : ∀ ty, (Instr.next (.pointer (some ⟨w.heap.size, 0, none⟩)) true ty).run Try.prog (w.iter a0 a0.size) = _ := fun ty => run_next_end w a0 a0.size ty hp
     have hop : (((a0.data.toList.take a0.size).countP (fun c => c == 40) : Nat) : Int) = plait_opens a0 := by unfold plait_opens; rw [List.take_of_length_le (by simp)]
     rw [hop]
     clear hop hp hpos
     have hb0 : Below w.heap.size w (w.iter a0 a0.size) := (Below.refl _ _).alloc (Nat.le_refl _) _
     clear HB
     have HB := Aside0.mk hb0
     obtain ⟨w1_, hw1_⟩ : ∃ w1_, w.iter a0 a0.size = w1_ := ⟨_, rfl⟩
     rw [hw1_] at hnx HB ⊢
     clear hw1_ hb0
     go_wp2_with (first | ((with_reducible refine gate_dst (N := 24) rfl ?_); refine Kd.R_make (Kd.int .i64) _ 3 rfl (N := 24) rfl 22 _ _ rfl (a0.size : Int) rfl rfl Try.underlying22 (.int .i64 0) 8 info3 rfl (by decide) (by omega) 0 (ok := fun _ => True) (okp := fun _ => True) rfl (fun _ hk => hk) trivial (of_decide_eq_true (by first | (with_reducible assumption) | assumption)) (Nat.le_trans (Nat.mul_le_mul_right _ (of_decide_eq_true (by first | (with_reducible assumption) | assumption) : (a0.size : Int).toNat ≤ 35184372088832)) (by omega)) (Below.refl _ _) (Nat.le_refl _) ?_; intro v190 w4 ho5 hb hg_ hnew_; clear hg_ hnew_; (first | rw [← Ny189.out] at ho5 | (simp only [Int.reduceToNat] at ho5; rw [← Ny189.out] at ho5)); have n0_ := Aside0.mk (Kd.R_lower ho5 (below_size (by repeat (first | (with_reducible first | exact HB.out | apply below_alloc | apply pw_below_drewN | apply below_drew1) | exact HB.out)))); have n1_ := Aside0.mk (below_step (by repeat (first | (with_reducible first | exact HB.out | apply below_alloc | apply pw_below_drewN | apply below_drew1) | exact HB.out)) hb); clear HB; have HO191 := n0_; have HB := n1_; clear n0_ n1_; clear hb ho5) | ((with_reducible refine gate_dst (N := 27) rfl ?_); refine Kd.R_make (Kd.int .i64) _ 3 rfl (N := 27) rfl 22 _ _ rfl (a0.size : Int) rfl rfl Try.underlying22 (.int .i64 0) 8 info3 rfl (by decide) (by omega) 0 (ok := fun _ => True) (okp := fun _ => True) rfl (fun _ hk => hk) trivial (of_decide_eq_true (by first | (with_reducible assumption) | assumption)) (Nat.le_trans (Nat.mul_le_mul_right _ (of_decide_eq_true (by first | (with_reducible assumption) | assumption) : (a0.size : Int).toNat ≤ 35184372088832)) (by omega)) (Below.refl _ _) (Nat.le_refl _) ?_; intro v193 w6 ho7 hb hg_ hnew_; clear hg_ hnew_; (first | rw [← Ny192.out] at ho7 | (simp only [Int.reduceToNat] at ho7; rw [← Ny192.out] at ho7)); have n0_ := Aside0.mk (Kd.R_elder' (by (with_reducible repeat (first | apply Kd.R_alloc | apply Kd.R_drewN | apply Kd.R_drew)); exact HO191.out) (Kd.R_base ho7) hb); have n1_ := Aside0.mk (Kd.R_lower (Kd.R_new' ho7 (Kd.R_lt (by (with_reducible repeat (first | apply Kd.R_alloc | apply Kd.R_drewN | apply Kd.R_drew)); exact HO191.out))) (below_size (by repeat (first | (with_reducible first | exact HB.out | apply below_alloc | apply pw_below_drewN | apply below_drew1) | exact HB.out)))); have n2_ := Aside0.mk (below_step (by repeat (first | (with_reducible first | exact HB.out | apply below_alloc | apply pw_below_drewN | apply below_drew1) | exact HB.out)) hb); clear HO191; clear HB; have HO191 := n0_; have HO194 := n1_; have HB := n2_; clear n0_ n1_ n2_; clear hb ho7))
     go_loopg [6, 7, 8, 30] k (fun kq v6 v7 v8 v30 w' => ∃ (x6_1 : Int) (x7_1 : Int) (x8_1 : Int) (x9_1 : List Int) (x10_1 : List Int) (x30_1 : Int), v6 = .int .i64 x6_1 ∧ v7 = .int .i64 x7_1 ∧ v8 = .int .i64 x8_1 ∧ v30 = .int .i64 x30_1 ∧ Aside0 (plait_next.l0 kq a0 (plait_opens a0) x6_1 x7_1 x8_1 x9_1 x10_1 (a0.size : Int) x30_1 = some r) ∧ Aside0 (kq ≤ k) ∧ Aside0 (Kd.R (Kd.int .i64) 3 w' w.heap.size (fun k_ => some k_ ≠ (v193 : Value).ownBlock) v190 x9_1) ∧ Aside0 (Kd.R (Kd.int .i64) 3 w' w.heap.size (fun k_ => some k_ ≠ (v190 : Value).ownBlock) v193 x10_1) ∧ Aside0 (Below w.heap.size w w'))
     case atStart => exact ⟨(0), (0), ((-1)), (y189), (y192), (0), (by first | rfl | (simp; done) | (simp [*]; done)), (by first | rfl | (simp; done) | (simp [*]; done)), (by first | rfl | (simp; done) | (simp [*]; done)), (by first | rfl | (simp; done) | (simp [*]; done)), H', ⟨Nat.le_refl _⟩, ⟨by (with_reducible repeat (first | apply Kd.R_alloc | apply Kd.R_drewN | apply Kd.R_drew)); exact Kd.R_mono HO191.out (fun _ hk => hk.2)⟩, ⟨by (with_reducible repeat (first | apply Kd.R_alloc | apply Kd.R_drewN | apply Kd.R_drew)); exact Kd.R_mono HO194.out (fun _ hk => hk.2)⟩, ⟨by repeat (first | (with_reducible first | exact HB.out | apply below_alloc | apply pw_below_drewN | apply below_drew1) | exact HB.out)⟩⟩
     case round =>
      clear H'
      try clear c2
      try clear c2b0
      try clear c2b1
      try clear p2
      try clear c3
      try clear c3b0
      try clear c3b1
      try clear c6
      obtain ⟨x6_1, x7_1, x8_1, x9_1, x10_1, x30_1, rfl, rfl, rfl, rfl, HA, HK1, HO_9, HO_10, HB⟩ := hrel
      cases gk with
      | zero => exact absurd HA.out (by simp [plait_next.l0])
      | succ k1 =>
       have H := HA.out
       clear HA
       simp only [plait_next.l0] at H
       by_cases c8 : x30_1 < (a0.size : Int)
       ·rw [if_pos c8] at H
        have c8b0 : decide (x30_1 < (a0.size : Int)) = true := decide_eq_true c8
        clear c8
        by_cases c9 : 0 ≤ x30_1
        ·rw [if_pos c9] at H
         have c9b0 : decide (0 ≤ x30_1) = true := decide_eq_true c9
         clear c9
         by_cases c10 : x30_1 < (x9_1.length : Int)
         ·rw [if_pos c10] at H
          have c10b0 : decide (x30_1 < (x9_1.length : Int)) = true := decide_eq_true c10
          clear c10
          obtain ⟨y195, hy195⟩ : ∃ y_ : List Int, y_ = (x9_1.set (x30_1 : Int).toNat x7_1) := ⟨_, rfl⟩
          replace H : (if x30_1 < (x10_1.length : Int) then ((some (x10_1.set (x30_1 : Int).toNat x6_1 : List Int)).bind fun y196 => (if x30_1 < (a0.size : Int) then (if (bt a0 x30_1) = 40 then (if x7_1 > 0 then (plait_next.l0 k1 a0 (plait_opens a0) (wrap64 (x6_1 + 1)) (wrap64 (x7_1 + 1)) x30_1 y195 y196 (a0.size : Int) (wrap64 (x30_1 + 1))) else (plait_next.l0 k1 a0 (plait_opens a0) (wrap64 (x6_1 + 1)) (wrap64 (x7_1 + 1)) x8_1 y195 y196 (a0.size : Int) (wrap64 (x30_1 + 1)))) else (plait_next.l0 k1 a0 (plait_opens a0) x6_1 (wrap64 (x7_1 - 1)) x8_1 y195 y196 (a0.size : Int) (wrap64 (x30_1 + 1)))) else (none))) else (none)) = some r := by first | (rw [hy195]; with_reducible exact H) | (have H2_ := (Option.bind_some _ _).symm.trans H; rw [hy195]; with_reducible exact H2_) | (have H2_ := (Option.bind_some _ _).symm.trans H; with_reducible exact H2_) | with_reducible exact H | (rw [hy195]; exact H) | exact H
          have Ny195 := Aside0.mk hy195
          clear hy195
          by_cases c12 : x30_1 < (x10_1.length : Int)
          ·rw [if_pos c12] at H
           have c12b0 : decide (x30_1 < (x10_1.length : Int)) = true := decide_eq_true c12
           clear c12
           obtain ⟨y196, hy196⟩ : ∃ y_ : List Int, y_ = (x10_1.set (x30_1 : Int).toNat x6_1) := ⟨_, rfl⟩
           replace H : (if x30_1 < (a0.size : Int) then (if (bt a0 x30_1) = 40 then (if x7_1 > 0 then (plait_next.l0 k1 a0 (plait_opens a0) (wrap64 (x6_1 + 1)) (wrap64 (x7_1 + 1)) x30_1 y195 y196 (a0.size : Int) (wrap64 (x30_1 + 1))) else (plait_next.l0 k1 a0 (plait_opens a0) (wrap64 (x6_1 + 1)) (wrap64 (x7_1 + 1)) x8_1 y195 y196 (a0.size : Int) (wrap64 (x30_1 + 1)))) else (plait_next.l0 k1 a0 (plait_opens a0) x6_1 (wrap64 (x7_1 - 1)) x8_1 y195 y196 (a0.size : Int) (wrap64 (x30_1 + 1)))) else (none)) = some r := by first | (rw [hy196]; with_reducible exact H) | (have H2_ := (Option.bind_some _ _).symm.trans H; rw [hy196]; with_reducible exact H2_) | (have H2_ := (Option.bind_some _ _).symm.trans H; with_reducible exact H2_) | with_reducible exact H | (rw [hy196]; exact H) | exact H
           have Ny196 := Aside0.mk hy196
           clear hy196
           by_cases c14 : x30_1 < (a0.size : Int)
           ·rw [if_pos c14] at H
            have c14b0 : decide (x30_1 < (a0.size : Int)) = true := decide_eq_true c14
            clear c14
            by_cases c16 : (bt a0 x30_1) = 40
            ·rw [if_pos c16] at H
             have c16b0 : ((bt a0 x30_1) == 40) = true := beq_iff_eq.mpr c16
             have c16b1 : ((bt a0 x30_1) != 40) = false := bne_eq_false_iff_eq.mpr c16
             clear c16
             by_cases c17 : x7_1 > 0
             ·rw [if_pos c17] at H
              have c17b0 : decide (0 < x7_1) = true := decide_eq_true c17
              clear c17
              have H' := Aside0.mk H
              clear H
              have p11 : 0 ≤ (x30_1 : Int) := of_decide_eq_true (by first | (with_reducible assumption) | assumption)
              have q11 : (x30_1 : Int) < ((x9_1.length : Int) : Int) := of_decide_eq_true (by first | (with_reducible assumption) | assumption)
              obtain ⟨go11, co11, eo11, gb11, gl11, cl11, HG11⟩ := Kd.R_form HO_9.out (by omega)
              (first | cases eo11 | (injection eo11 with ea_ en_ ec_; (first | subst ea_ | (injection ea_ with ea_; subst ea_)); subst ec_; clear en_))
              have GB11 := Aside0.mk gb11
              have GG11 := Aside0.mk HG11
              clear gb11 gl11 HG11
              obtain ⟨hx11_0, hf11_0⟩ := Kd.R_celln 0 HO_9.out (x30_1 : Int) p11 q11
              replace p11 := eq_true p11
              replace q11 := eq_true q11
              have HP18 := Kd.R_putg HO_9.out (x30_1 : Int) x7_1
              go_wp2_with (first | ((with_reducible refine gate_store (t := 3) (p := 39) rfl ?_); refine store_event (t := 3) (p := 39) (v := ?vo_w19) (w1 := (wr.setCell ⟨go11, (x30_1 : Int).toNat, none⟩ (.int .i64 x7_1))) ?hg ?ho ?hn ?hr ?_; (case ho => rfl); (case hg => rfl); (case hn => rfl); (case hr => first | (go_simp; done) | (go_simp; rfl)); intro w19 hw; have hg : wr.grownBy w19 (some go11) := (by rw [hw]; exact HP18.2); have hp_ : Kd.R (Kd.int .i64) 3 w19 w.heap.size (fun k_ => some k_ ≠ (v193 : Value).ownBlock) (.slice (some ⟨go11, 0, none⟩) x9_1.length co11) y195 := (by rw [hw, Ny195.out]; exact HP18.1); clear HP18; have n0_ := Aside0.mk (hp_); have n1_ := Aside0.mk (Kd.R_after (v := (.slice (some ⟨go11, 0, none⟩) x9_1.length co11)) (v1 := (.slice (some ⟨go11, 0, none⟩) x9_1.length co11)) (ok := (fun _ => True)) (by (with_reducible repeat (first | apply Kd.R_alloc | apply Kd.R_drewN | apply Kd.R_drew)); exact Kd.R_mono HO_10.out (fun _ hk => ⟨trivial, hk⟩)) hg (.inl rfl)); have n2_ := Aside0.mk ((by rw [hw]; exact below_set (HB.out) GB11.out : Below w.heap.size w w19)); clear HO_9; clear HO_10; clear HB; have HO_9 := n0_; have HO_10 := n1_; have HB := n2_; clear n0_ n1_ n2_; clear hg hw hp_; have p13 : 0 ≤ (x30_1 : Int) := of_decide_eq_true (by first | (with_reducible assumption) | assumption); have q13 : (x30_1 : Int) < ((x10_1.length : Int) : Int) := of_decide_eq_true (by first | (with_reducible assumption) | assumption); obtain ⟨go13, co13, eo13, gb13, gl13, cl13, HG13⟩ := Kd.R_form HO_10.out (by omega); (first | cases eo13 | (injection eo13 with ea_ en_ ec_; (first | subst ea_ | (injection ea_ with ea_; subst ea_)); subst ec_; clear en_)); have GB13 := Aside0.mk gb13; have GG13 := Aside0.mk HG13; clear gb13 gl13 HG13; obtain ⟨hx13_0, hf13_0⟩ := Kd.R_celln 0 HO_10.out (x30_1 : Int) p13 q13; replace p13 := eq_true p13; replace q13 := eq_true q13; have n_ := Aside0.mk (Kd.R_mono (ok' := (fun k_ => some k_ ≠ (.slice (some ⟨go11, 0, none⟩) x9_1.length co11 : Value).ownBlock)) HO_10.out (fun k_ hk => hk.2)); clear HO_10; have HO_10 := n_; clear n_; obtain ⟨hy20_, hz20_⟩ := Kd.R_celln 0 HO_10.out (x30_1 : Int) (of_decide_eq_true (by first | (with_reducible assumption) | assumption)) (of_decide_eq_true (by first | (with_reducible assumption) | assumption)); have HP20 := Kd.R_putg HO_10.out (x30_1 : Int) x6_1) | ((with_reducible refine gate_store (t := 3) (p := 40) rfl ?_); refine store_event (t := 3) (p := 40) (v := ?vo_w21) (w1 := (w19.setCell ⟨go13, (x30_1 : Int).toNat, none⟩ (.int .i64 x6_1))) ?hg ?ho ?hn ?hr ?_; (case ho => rfl); (case hg => rfl); (case hn => rfl); (case hr => first | (go_simp; done) | (go_simp; rfl)); intro w21 hw; have hg : w19.grownBy w21 (some go13) := (by rw [hw]; exact HP20.2); have hp_ : Kd.R (Kd.int .i64) 3 w21 w.heap.size (fun k_ => some k_ ≠ (.slice (some ⟨go11, 0, none⟩) x9_1.length co11 : Value).ownBlock) (.slice (some ⟨go13, 0, none⟩) x10_1.length co13) y196 := (by rw [hw, Ny196.out]; exact HP20.1); clear HP20; have n0_ := Aside0.mk (Kd.R_after (v := (.slice (some ⟨go13, 0, none⟩) x10_1.length co13)) (v1 := (.slice (some ⟨go13, 0, none⟩) x10_1.length co13)) (ok := (fun _ => True)) (by (with_reducible repeat (first | apply Kd.R_alloc | apply Kd.R_drewN | apply Kd.R_drew)); exact Kd.R_mono HO_9.out (fun _ hk => ⟨trivial, hk⟩)) hg (.inl rfl)); have n1_ := Aside0.mk (hp_); have n2_ := Aside0.mk ((by rw [hw]; exact below_set (HB.out) GB13.out : Below w.heap.size w w21)); clear HO_9; clear HO_10; clear HB; have HO_9 := n0_; have HO_10 := n1_; have HB := n2_; clear n0_ n1_ n2_; clear hg hw hp_; have p15 : 0 ≤ (x30_1 : Int) := of_decide_eq_true (by first | (with_reducible assumption) | assumption); have q15 : x30_1 < (a0.size : Int) := of_decide_eq_true (by first | (with_reducible assumption) | assumption); have hx15 := bt_at a0 x30_1; replace p15 := eq_true p15; replace q15 := eq_true q15))
              go_roundg k1
              case measure => have := HK1.out; omega
              case rel => exact ⟨(wrap64 (x6_1 + 1)), (wrap64 (x7_1 + 1)), (x30_1), (y195), (y196), (wrap64 (x30_1 + 1)), (by first | rfl | (simp; done) | (simp [*]; done)), (by first | rfl | (simp; done) | (simp [*]; done)), (by first | rfl | (simp; done) | (simp [*]; done)), (by first | rfl | (simp; done) | (simp [*]; done)), H', ⟨by have := HK1.out; omega⟩, ⟨by (with_reducible repeat (first | apply Kd.R_alloc | apply Kd.R_drewN | apply Kd.R_drew)); exact Kd.R_mono HO_9.out (fun _ hk => hk.2)⟩, ⟨by (with_reducible repeat (first | apply Kd.R_alloc | apply Kd.R_drewN | apply Kd.R_drew)); exact HO_10.out⟩, ⟨by repeat (first | (with_reducible first | exact HB.out | apply below_alloc | apply pw_below_drewN | apply below_drew1) | exact HB.out)⟩⟩
             ·rw [if_neg c17] at H
              have c17b0 : decide (0 < x7_1) = false := decide_eq_false c17
              clear c17
              have H' := Aside0.mk H
              clear H
              have p11 : 0 ≤ (x30_1 : Int) := of_decide_eq_true (by first | (with_reducible assumption) | assumption)
              have q11 : (x30_1 : Int) < ((x9_1.length : Int) : Int) := of_decide_eq_true (by first | (with_reducible assumption) | assumption)
              obtain ⟨go11, co11, eo11, gb11, gl11, cl11, HG11⟩ := Kd.R_form HO_9.out (by omega)
              (first | cases eo11 | (injection eo11 with ea_ en_ ec_; (first | subst ea_ | (injection ea_ with ea_; subst ea_)); subst ec_; clear en_))
              have GB11 := Aside0.mk gb11
              have GG11 := Aside0.mk HG11
              clear gb11 gl11 HG11
              obtain ⟨hx11_0, hf11_0⟩ := Kd.R_celln 0 HO_9.out (x30_1 : Int) p11 q11
              replace p11 := eq_true p11
              replace q11 := eq_true q11
              have HP22 := Kd.R_putg HO_9.out (x30_1 : Int) x7_1
              go_wp2_with (first | ((with_reducible refine gate_store (t := 3) (p := 39) rfl ?_); refine store_event (t := 3) (p := 39) (v := ?vo_w23) (w1 := (wr.setCell ⟨go11, (x30_1 : Int).toNat, none⟩ (.int .i64 x7_1))) ?hg ?ho ?hn ?hr ?_; (case ho => rfl); (case hg => rfl); (case hn => rfl); (case hr => first | (go_simp; done) | (go_simp; rfl)); intro w23 hw; have hg : wr.grownBy w23 (some go11) := (by rw [hw]; exact HP22.2); have hp_ : Kd.R (Kd.int .i64) 3 w23 w.heap.size (fun k_ => some k_ ≠ (v193 : Value).ownBlock) (.slice (some ⟨go11, 0, none⟩) x9_1.length co11) y195 := (by rw [hw, Ny195.out]; exact HP22.1); clear HP22; have n0_ := Aside0.mk (hp_); have n1_ := Aside0.mk (Kd.R_after (v := (.slice (some ⟨go11, 0, none⟩) x9_1.length co11)) (v1 := (.slice (some ⟨go11, 0, none⟩) x9_1.length co11)) (ok := (fun _ => True)) (by (with_reducible repeat (first | apply Kd.R_alloc | apply Kd.R_drewN | apply Kd.R_drew)); exact Kd.R_mono HO_10.out (fun _ hk => ⟨trivial, hk⟩)) hg (.inl rfl)); have n2_ := Aside0.mk ((by rw [hw]; exact below_set (HB.out) GB11.out : Below w.heap.size w w23)); clear HO_9; clear HO_10; clear HB; have HO_9 := n0_; have HO_10 := n1_; have HB := n2_; clear n0_ n1_ n2_; clear hg hw hp_; have p13 : 0 ≤ (x30_1 : Int) := of_decide_eq_true (by first | (with_reducible assumption) | assumption); have q13 : (x30_1 : Int) < ((x10_1.length : Int) : Int) := of_decide_eq_true (by first | (with_reducible assumption) | assumption); obtain ⟨go13, co13, eo13, gb13, gl13, cl13, HG13⟩ := Kd.R_form HO_10.out (by omega); (first | cases eo13 | (injection eo13 with ea_ en_ ec_; (first | subst ea_ | (injection ea_ with ea_; subst ea_)); subst ec_; clear en_)); have GB13 := Aside0.mk gb13; have GG13 := Aside0.mk HG13; clear gb13 gl13 HG13; obtain ⟨hx13_0, hf13_0⟩ := Kd.R_celln 0 HO_10.out (x30_1 : Int) p13 q13; replace p13 := eq_true p13; replace q13 := eq_true q13; have n_ := Aside0.mk (Kd.R_mono (ok' := (fun k_ => some k_ ≠ (.slice (some ⟨go11, 0, none⟩) x9_1.length co11 : Value).ownBlock)) HO_10.out (fun k_ hk => hk.2)); clear HO_10; have HO_10 := n_; clear n_; obtain ⟨hy24_, hz24_⟩ := Kd.R_celln 0 HO_10.out (x30_1 : Int) (of_decide_eq_true (by first | (with_reducible assumption) | assumption)) (of_decide_eq_true (by first | (with_reducible assumption) | assumption)); have HP24 := Kd.R_putg HO_10.out (x30_1 : Int) x6_1) | ((with_reducible refine gate_store (t := 3) (p := 40) rfl ?_); refine store_event (t := 3) (p := 40) (v := ?vo_w25) (w1 := (w23.setCell ⟨go13, (x30_1 : Int).toNat, none⟩ (.int .i64 x6_1))) ?hg ?ho ?hn ?hr ?_; (case ho => rfl); (case hg => rfl); (case hn => rfl); (case hr => first | (go_simp; done) | (go_simp; rfl)); intro w25 hw; have hg : w23.grownBy w25 (some go13) := (by rw [hw]; exact HP24.2); have hp_ : Kd.R (Kd.int .i64) 3 w25 w.heap.size (fun k_ => some k_ ≠ (.slice (some ⟨go11, 0, none⟩) x9_1.length co11 : Value).ownBlock) (.slice (some ⟨go13, 0, none⟩) x10_1.length co13) y196 := (by rw [hw, Ny196.out]; exact HP24.1); clear HP24; have n0_ := Aside0.mk (Kd.R_after (v := (.slice (some ⟨go13, 0, none⟩) x10_1.length co13)) (v1 := (.slice (some ⟨go13, 0, none⟩) x10_1.length co13)) (ok := (fun _ => True)) (by (with_reducible repeat (first | apply Kd.R_alloc | apply Kd.R_drewN | apply Kd.R_drew)); exact Kd.R_mono HO_9.out (fun _ hk => ⟨trivial, hk⟩)) hg (.inl rfl)); have n1_ := Aside0.mk (hp_); have n2_ := Aside0.mk ((by rw [hw]; exact below_set (HB.out) GB13.out : Below w.heap.size w w25)); clear HO_9; clear HO_10; clear HB; have HO_9 := n0_; have HO_10 := n1_; have HB := n2_; clear n0_ n1_ n2_; clear hg hw hp_; have p15 : 0 ≤ (x30_1 : Int) := of_decide_eq_true (by first | (with_reducible assumption) | assumption); have q15 : x30_1 < (a0.size : Int) := of_decide_eq_true (by first | (with_reducible assumption) | assumption); have hx15 := bt_at a0 x30_1; replace p15 := eq_true p15; replace q15 := eq_true q15))
              go_roundg k1
              case measure => have := HK1.out; omega
              case rel => exact ⟨(wrap64 (x6_1 + 1)), (wrap64 (x7_1 + 1)), (x8_1), (y195), (y196), (wrap64 (x30_1 + 1)), (by first | rfl | (simp; done) | (simp [*]; done)), (by first | rfl | (simp; done) | (simp [*]; done)), (by first | rfl | (simp; done) | (simp [*]; done)), (by first | rfl | (simp; done) | (simp [*]; done)), H', ⟨by have := HK1.out; omega⟩, ⟨by (with_reducible repeat (first | apply Kd.R_alloc | apply Kd.R_drewN | apply Kd.R_drew)); exact Kd.R_mono HO_9.out (fun _ hk => hk.2)⟩, ⟨by (with_reducible repeat (first | apply Kd.R_alloc | apply Kd.R_drewN | apply Kd.R_drew)); exact HO_10.out⟩, ⟨by repeat (first | (with_reducible first | exact HB.out | apply below_alloc | apply pw_below_drewN | apply below_drew1) | exact HB.out)⟩⟩
            ·rw [if_neg c16] at H
             have c16b0 : ((bt a0 x30_1) == 40) = false := beq_eq_false_iff_ne.mpr c16
             have c16b1 : ((bt a0 x30_1) != 40) = true := bne_iff_ne.mpr c16
             have H' := Aside0.mk H
             clear H
             have p11 : 0 ≤ (x30_1 : Int) := of_decide_eq_true (by first | (with_reducible assumption) | assumption)
             have q11 : (x30_1 : Int) < ((x9_1.length : Int) : Int) := of_decide_eq_true (by first | (with_reducible assumption) | assumption)
             obtain ⟨go11, co11, eo11, gb11, gl11, cl11, HG11⟩ := Kd.R_form HO_9.out (by omega)
             (first | cases eo11 | (injection eo11 with ea_ en_ ec_; (first | subst ea_ | (injection ea_ with ea_; subst ea_)); subst ec_; clear en_))
             have GB11 := Aside0.mk gb11
             have GG11 := Aside0.mk HG11
             clear gb11 gl11 HG11
             obtain ⟨hx11_0, hf11_0⟩ := Kd.R_celln 0 HO_9.out (x30_1 : Int) p11 q11
             replace p11 := eq_true p11
             replace q11 := eq_true q11
             have HP26 := Kd.R_putg HO_9.out (x30_1 : Int) x7_1
             go_wp2_with (first | ((with_reducible refine gate_store (t := 3) (p := 39) rfl ?_); refine store_event (t := 3) (p := 39) (v := ?vo_w27) (w1 := (wr.setCell ⟨go11, (x30_1 : Int).toNat, none⟩ (.int .i64 x7_1))) ?hg ?ho ?hn ?hr ?_; (case ho => rfl); (case hg => rfl); (case hn => rfl); (case hr => first | (go_simp; done) | (go_simp; rfl)); intro w27 hw; have hg : wr.grownBy w27 (some go11) := (by rw [hw]; exact HP26.2); have hp_ : Kd.R (Kd.int .i64) 3 w27 w.heap.size (fun k_ => some k_ ≠ (v193 : Value).ownBlock) (.slice (some ⟨go11, 0, none⟩) x9_1.length co11) y195 := (by rw [hw, Ny195.out]; exact HP26.1); clear HP26; have n0_ := Aside0.mk (hp_); have n1_ := Aside0.mk (Kd.R_after (v := (.slice (some ⟨go11, 0, none⟩) x9_1.length co11)) (v1 := (.slice (some ⟨go11, 0, none⟩) x9_1.length co11)) (ok := (fun _ => True)) (by (with_reducible repeat (first | apply Kd.R_alloc | apply Kd.R_drewN | apply Kd.R_drew)); exact Kd.R_mono HO_10.out (fun _ hk => ⟨trivial, hk⟩)) hg (.inl rfl)); have n2_ := Aside0.mk ((by rw [hw]; exact below_set (HB.out) GB11.out : Below w.heap.size w w27)); clear HO_9; clear HO_10; clear HB; have HO_9 := n0_; have HO_10 := n1_; have HB := n2_; clear n0_ n1_ n2_; clear hg hw hp_; have p13 : 0 ≤ (x30_1 : Int) := of_decide_eq_true (by first | (with_reducible assumption) | assumption); have q13 : (x30_1 : Int) < ((x10_1.length : Int) : Int) := of_decide_eq_true (by first | (with_reducible assumption) | assumption); obtain ⟨go13, co13, eo13, gb13, gl13, cl13, HG13⟩ := Kd.R_form HO_10.out (by omega); (first | cases eo13 | (injection eo13 with ea_ en_ ec_; (first | subst ea_ | (injection ea_ with ea_; subst ea_)); subst ec_; clear en_)); have GB13 := Aside0.mk gb13; have GG13 := Aside0.mk HG13; clear gb13 gl13 HG13; obtain ⟨hx13_0, hf13_0⟩ := Kd.R_celln 0 HO_10.out (x30_1 : Int) p13 q13; replace p13 := eq_true p13; replace q13 := eq_true q13; have n_ := Aside0.mk (Kd.R_mono (ok' := (fun k_ => some k_ ≠ (.slice (some ⟨go11, 0, none⟩) x9_1.length co11 : Value).ownBlock)) HO_10.out (fun k_ hk => hk.2)); clear HO_10; have HO_10 := n_; clear n_; obtain ⟨hy28_, hz28_⟩ := Kd.R_celln 0 HO_10.out (x30_1 : Int) (of_decide_eq_true (by first | (with_reducible assumption) | assumption)) (of_decide_eq_true (by first | (with_reducible assumption) | assumption)); have HP28 := Kd.R_putg HO_10.out (x30_1 : Int) x6_1) | ((with_reducible refine gate_store (t := 3) (p := 40) rfl ?_); refine store_event (t := 3) (p := 40) (v := ?vo_w29) (w1 := (w27.setCell ⟨go13, (x30_1 : Int).toNat, none⟩ (.int .i64 x6_1))) ?hg ?ho ?hn ?hr ?_; (case ho => rfl); (case hg => rfl); (case hn => rfl); (case hr => first | (go_simp; done) | (go_simp; rfl)); intro w29 hw; have hg : w27.grownBy w29 (some go13) := (by rw [hw]; exact HP28.2); have hp_ : Kd.R (Kd.int .i64) 3 w29 w.heap.size (fun k_ => some k_ ≠ (.slice (some ⟨go11, 0, none⟩) x9_1.length co11 : Value).ownBlock) (.slice (some ⟨go13, 0, none⟩) x10_1.length co13) y196 := (by rw [hw, Ny196.out]; exact HP28.1); clear HP28; have n0_ := Aside0.mk (Kd.R_after (v := (.slice (some ⟨go13, 0, none⟩) x10_1.length co13)) (v1 := (.slice (some ⟨go13, 0, none⟩) x10_1.length co13)) (ok := (fun _ => True)) (by (with_reducible repeat (first | apply Kd.R_alloc | apply Kd.R_drewN | apply Kd.R_drew)); exact Kd.R_mono HO_9.out (fun _ hk => ⟨trivial, hk⟩)) hg (.inl rfl)); have n1_ := Aside0.mk (hp_); have n2_ := Aside0.mk ((by rw [hw]; exact below_set (HB.out) GB13.out : Below w.heap.size w w29)); clear HO_9; clear HO_10; clear HB; have HO_9 := n0_; have HO_10 := n1_; have HB := n2_; clear n0_ n1_ n2_; clear hg hw hp_; have p15 : 0 ≤ (x30_1 : Int) := of_decide_eq_true (by first | (with_reducible assumption) | assumption); have q15 : x30_1 < (a0.size : Int) := of_decide_eq_true (by first | (with_reducible assumption) | assumption); have hx15 := bt_at a0 x30_1; replace p15 := eq_true p15; replace q15 := eq_true q15))
             go_roundg k1
             case measure => have := HK1.out; omega
             case rel => exact ⟨(x6_1), (wrap64 (x7_1 - 1)), (x8_1), (y195), (y196), (wrap64 (x30_1 + 1)), (by first | rfl | (simp; done) | (simp [*]; done)), (by first | rfl | (simp; done) | (simp [*]; done)), (by first | rfl | (simp; done) | (simp [*]; done)), (by first | rfl | (simp; done) | (simp [*]; done)), H', ⟨by have := HK1.out; omega⟩, ⟨by (with_reducible repeat (first | apply Kd.R_alloc | apply Kd.R_drewN | apply Kd.R_drew)); exact Kd.R_mono HO_9.out (fun _ hk => hk.2)⟩, ⟨by (with_reducible repeat (first | apply Kd.R_alloc | apply Kd.R_drewN | apply Kd.R_drew)); exact HO_10.out⟩, ⟨by repeat (first | (with_reducible first | exact HB.out | apply below_alloc | apply pw_below_drewN | apply below_drew1) | exact HB.out)⟩⟩
           ·rw [if_neg c14] at H
            exact absurd H (by simp)
          ·rw [if_neg c12] at H
           exact absurd H (by simp)
         ·rw [if_neg c10] at H
          exact absurd H (by simp)
        ·rw [if_neg c9] at H
         exact absurd H (by simp)
       ·rw [if_neg c8] at H
        have c8b0 : decide (x30_1 < (a0.size : Int)) = false := decide_eq_false c8
        clear c8
        by_cases c30 : x8_1 < 0
        ·rw [if_pos c30] at H
         have c30b0 : decide (x8_1 < 0) = true := decide_eq_true c30
         clear c30
         obtain rfl := Option.some.inj H
         go_wp2
         go_ret
         exact ⟨by first | rfl | (simp [errW_none, errW_some] <;> rfl) | (simp [*, errW_none, errW_some] <;> rfl), by repeat (first | (with_reducible first | exact HB.out | apply below_alloc | apply pw_below_drewN | apply below_drew1) | exact HB.out)⟩
        ·rw [if_neg c30] at H
         have c30b0 : decide (x8_1 < 0) = false := decide_eq_false c30
         clear c30
         by_cases c31 : 0 ≤ x8_1
         ·rw [if_pos c31] at H
          have c31b0 : decide (0 ≤ x8_1) = true := decide_eq_true c31
          clear c31
          by_cases c32 : x8_1 < (x10_1.length : Int)
          ·rw [if_pos c32] at H
           have c32b0 : decide (x8_1 < (x10_1.length : Int)) = true := decide_eq_true c32
           clear c32
           have c33b0 := eq_true (of_decide_eq_true (by first | (with_reducible assumption) | assumption) : 0 ≤ x8_1)
           by_cases c34 : x8_1 ≤ (a0.size : Int)
           ·rw [if_pos c34] at H
            have c34b0 := eq_true c34
            have c34b1 : decide (x8_1 ≤ (a0.size : Int)) = true := decide_eq_true c34
            clear c34
            by_cases c35 : (a0.extract 0 (x8_1 : Int).toNat).size + 1 ≤ 9223372036854775807
            ·rw [if_pos c35] at H
             have c35b0 := eq_true c35
             have c35b1 : decide ((a0.extract 0 (x8_1 : Int).toNat).size + 1 ≤ 9223372036854775807) = true := decide_eq_true c35
             try have c35b2 : (9223372036854775807 < (a0.extract 0 (x8_1 : Int).toNat).size + 1) = False := eq_false (Nat.not_lt.2 c35)
             (try have c35b3 : (9223372036854775807 < x8_1.toNat + 1) = False := eq_false (by have h2_ := of_eq_true c35b0; rw [ByteArray.size_extract] at h2_; have h1_ : x8_1 ≤ (a0.size : Int) := of_decide_eq_true (by assumption); simp at h2_; omega))
             replace H := Option.bind_eq_some_iff.mp H
             obtain ⟨t198, A360, H⟩ := H
             replace H : (if ((a0.extract 0 (x8_1 : Int).toNat) ++ (⟨#[41]⟩ : ByteArray)).size + t198.size ≤ 9223372036854775807 then (if x8_1 < (x9_1.length : Int) then ((strings_Repeat.f (⟨#[41]⟩ : ByteArray) (wrap64 ((wrap64 ((rd x9_1 x8_1) - 1)) + (wrap64 ((plait_opens a0) - (rd x10_1 x8_1)))))).bind fun t200 => (if (((a0.extract 0 (x8_1 : Int).toNat) ++ (⟨#[41]⟩ : ByteArray)) ++ t198).size + t200.size ≤ 9223372036854775807 then (some ((((a0.extract 0 (x8_1 : Int).toNat) ++ (⟨#[41]⟩ : ByteArray)) ++ t198) ++ t200)) else (none))) else (none)) else (none)) = some r := H
             have A36 := Aside0.mk A360
             clear A360
             by_cases c37 : ((a0.extract 0 (x8_1 : Int).toNat) ++ (⟨#[41]⟩ : ByteArray)).size + t198.size ≤ 9223372036854775807
             ·rw [if_pos c37] at H
              have c37b0 := eq_true c37
              have c37b1 : decide (((a0.extract 0 (x8_1 : Int).toNat) ++ (⟨#[41]⟩ : ByteArray)).size + t198.size ≤ 9223372036854775807) = true := decide_eq_true c37
              try have c37b2 : (9223372036854775807 < ((a0.extract 0 (x8_1 : Int).toNat) ++ (⟨#[41]⟩ : ByteArray)).size + t198.size) = False := eq_false (Nat.not_lt.2 c37)
              (try have c37b3 : (9223372036854775807 < x8_1.toNat + 1 + t198.size) = False := eq_false (by have h2_ := of_eq_true c37b0; simp only [ByteArray.size_append, ByteArray.size_extract] at h2_; have h1_ : x8_1 ≤ (a0.size : Int) := of_decide_eq_true (by assumption); have h3_ : (⟨#[41]⟩ : ByteArray).size = 1 := rfl; omega))
              by_cases c38 : x8_1 < (x9_1.length : Int)
              ·rw [if_pos c38] at H
               have c38b0 : decide (x8_1 < (x9_1.length : Int)) = true := decide_eq_true c38
               clear c38
               replace H := Option.bind_eq_some_iff.mp H
               obtain ⟨t200, A390, H⟩ := H
               replace H : (if (((a0.extract 0 (x8_1 : Int).toNat) ++ (⟨#[41]⟩ : ByteArray)) ++ t198).size + t200.size ≤ 9223372036854775807 then (some ((((a0.extract 0 (x8_1 : Int).toNat) ++ (⟨#[41]⟩ : ByteArray)) ++ t198) ++ t200)) else (none)) = some r := H
               have A39 := Aside0.mk A390
               clear A390
               by_cases c40 : (((a0.extract 0 (x8_1 : Int).toNat) ++ (⟨#[41]⟩ : ByteArray)) ++ t198).size + t200.size ≤ 9223372036854775807
               ·rw [if_pos c40] at H
                have c40b0 := eq_true c40
                have c40b1 : decide ((((a0.extract 0 (x8_1 : Int).toNat) ++ (⟨#[41]⟩ : ByteArray)) ++ t198).size + t200.size ≤ 9223372036854775807) = true := decide_eq_true c40
                try have c40b2 : (9223372036854775807 < (((a0.extract 0 (x8_1 : Int).toNat) ++ (⟨#[41]⟩ : ByteArray)) ++ t198).size + t200.size) = False := eq_false (Nat.not_lt.2 c40)
                (try have c40b3 : (9223372036854775807 < x8_1.toNat + 1 + t198.size + t200.size) = False := eq_false (by have h2_ := of_eq_true c40b0; simp only [ByteArray.size_append, ByteArray.size_extract] at h2_; have h1_ : x8_1 ≤ (a0.size : Int) := of_decide_eq_true (by assumption); have h3_ : (⟨#[41]⟩ : ByteArray).size = 1 := rfl; omega))
                obtain rfl := Option.some.inj H
                obtain ⟨Ao41, co41, eo41⟩ := Kd.R_slice HO_10.out
                subst eo41
                have p197 : 0 ≤ (x8_1 : Int) := of_decide_eq_true (by first | (with_reducible assumption) | assumption)
                have q197 : x8_1 < (x10_1.length : Int) := of_decide_eq_true (by first | (with_reducible assumption) | assumption)
                obtain ⟨ad197, e197, hx197_0⟩ := Kd.at_int (Kd.R_reads' HO_10.out).2.2 x8_1 p197 q197
                cases e197
                replace p197 := eq_true p197
                replace q197 := eq_true q197
                try go_wp2
                have n0_ := Aside0.mk (Kd.R_drew HO_9.out)
                have n1_ := Aside0.mk (Kd.R_drew HO_10.out)
                have n2_ := Aside0.mk (below_drew1 HB.out)
                clear HO_9
                clear HO_10
                clear HB
                have HO_9 := n0_
                have HO_10 := n1_
                have HB := n2_
                clear n0_ n1_ n2_
                obtain ⟨Ao43, co43, eo43⟩ := Kd.R_slice HO_9.out
                (first | subst eo43 | (injection eo43 with f1_ f2_ f3_; have f4_ := f1_.symm; have f5_ := f3_.symm; clear f1_ f2_ f3_; subst f4_; subst f5_))
                have p199 : 0 ≤ (x8_1 : Int) := of_decide_eq_true (by first | (with_reducible assumption) | assumption)
                have q199 : x8_1 < (x9_1.length : Int) := of_decide_eq_true (by first | (with_reducible assumption) | assumption)
                obtain ⟨ad199, e199, hx199_0⟩ := Kd.at_int (Kd.R_reads' HO_9.out).2.2 x8_1 p199 q199
                cases e199
                replace p199 := eq_true p199
                replace q199 := eq_true q199
                refine start_ (n := 17) (S := fun w' => w'.cell? (ad199.add (x8_1).toNat) = some (.int .i64 (rd x9_1 x8_1))) (ds := []) #[false, false, false, false, false, false, false, false, false, false, false, false, false, false, false, false, false] (by kernel_rfl) rfl rfl (hx199_0) (fun hHeld => ?_); refine with_tabW plait_next.tab25 plait_next.bits25 (fun HT_ HW_ => ?_)
                generalize wr.drew = w42 at HO_9 HO_10 HB hx199_0 hHeld ⊢
                refine pure_ (i := 0) (N := some 63) (v := ?_) (a' := ?_) #[true, false, false, false, false, false, false, false, false, false, false, false, false, false, false, false, false] rfl rfl (any_of HT_.out (by kernel_rfl)) (fun _ _ _ h => h) (Or.inl ⟨by rfl, ?_⟩) ?_ ?_
                rotate_left
                ·intro w'
                 go_simp
                 with_reducible rfl
                rotate_left
                ·simp only [Act.put, List.setIfInBounds_toArray, List.set_cons_zero, List.set_cons_succ, i64_w, i32_w]
                 rfl
                refine pure_ (i := 1) (N := some 64) (v := ?_) (a' := ?_) #[true, true, false, false, false, false, false, false, false, false, false, false, false, false, false, false, false] rfl rfl (any_of HT_.out (by kernel_rfl)) (fun _ _ _ h => h) (Or.inl ⟨by rfl, ?_⟩) ?_ ?_
                rotate_left
                ·intro w'
                 go_simp
                 with_reducible rfl
                rotate_left
                ·simp only [Act.put, List.setIfInBounds_toArray, List.set_cons_zero, List.set_cons_succ, i64_w, i32_w]
                 rfl
                refine pure_ (i := 2) (N := some 65) (v := ?_) (a' := ?_) #[true, true, true, false, false, false, false, false, false, false, false, false, false, false, false, false, false] rfl rfl (any_of HT_.out (by kernel_rfl)) (fun _ _ _ h => h) (Or.inl ⟨by rfl, ?_⟩) ?_ ?_
                rotate_left
                ·intro w'
                 go_simp
                 with_reducible rfl
                rotate_left
                ·simp only [Act.put, List.setIfInBounds_toArray, List.set_cons_zero, List.set_cons_succ, i64_w, i32_w]
                 rfl
                refine pure_ (i := 3) (N := some 66) (v := ?_) (a' := ?_) #[true, true, true, true, false, false, false, false, false, false, false, false, false, false, false, false, false] rfl rfl (any_of HT_.out (by kernel_rfl)) (fun _ _ _ h => h) (Or.inl ⟨by rfl, ?_⟩) ?_ ?_
                rotate_left
                ·intro w'
                 go_simp
                 with_reducible rfl
                rotate_left
                ·simp only [Act.put, List.setIfInBounds_toArray, List.set_cons_zero, List.set_cons_succ, i64_w, i32_w]
                 rfl
                refine pure_ (i := 4) (N := some 67) (v := ?_) (a' := ?_) #[true, true, true, true, true, false, false, false, false, false, false, false, false, false, false, false, false] rfl rfl (any_of HT_.out (by kernel_rfl)) (fun _ _ _ h => h) (Or.inl ⟨by rfl, ?_⟩) ?_ ?_
                rotate_left
                ·intro w'
                 go_simp
                 with_reducible rfl
                rotate_left
                ·simp only [Act.put, List.setIfInBounds_toArray, List.set_cons_zero, List.set_cons_succ, i64_w, i32_w]
                 rfl
                refine pure_ (i := 7) (N := some 70) (v := ?_) (a' := ?_) #[true, true, true, true, true, false, false, true, false, false, false, false, false, false, false, false, false] rfl rfl (any_of HT_.out (by kernel_rfl)) (fun _ _ _ h => h) (Or.inl ⟨by rfl, ?_⟩) ?_ ?_
                rotate_left
                ·intro w'
                 go_simp
                 with_reducible rfl
                rotate_left
                ·simp only [Act.put, List.setIfInBounds_toArray, List.set_cons_zero, List.set_cons_succ, i64_w, i32_w]
                 rfl
                refine pure_ (i := 8) (N := some 71) (v := ?_) (a' := ?_) #[true, true, true, true, true, false, false, true, true, false, false, false, false, false, false, false, false] rfl rfl (any_of HT_.out (by kernel_rfl)) (fun _ _ _ h => h) (Or.inl ⟨by rfl, ?_⟩) ?_ ?_
                rotate_left
                ·intro w'
                 go_simp
                 with_reducible rfl
                rotate_left
                ·simp only [Act.put, List.setIfInBounds_toArray, List.set_cons_zero, List.set_cons_succ, i64_w, i32_w]
                 rfl
                refine pure_ (i := 9) (N := some 72) (v := ?_) (a' := ?_) #[true, true, true, true, true, false, false, true, true, true, false, false, false, false, false, false, false] rfl rfl (any_of HT_.out (by kernel_rfl)) (fun _ _ _ h => h) (Or.inl ⟨by rfl, ?_⟩) ?_ ?_
                rotate_left
                ·intro w'
                 go_simp
                 with_reducible rfl
                rotate_left
                ·simp only [Act.put, List.setIfInBounds_toArray, List.set_cons_zero, List.set_cons_succ, i64_w, i32_w]
                 rfl
                refine pure_ (i := 12) (N := some 75) (v := ?_) (a' := ?_) #[true, true, true, true, true, false, false, true, true, true, false, false, true, false, false, false, false] rfl rfl (any_of HT_.out (by kernel_rfl)) (fun _ _ _ h => h) (Or.inl ⟨by rfl, ?_⟩) ?_ ?_
                rotate_left
                ·intro w'
                 go_simp
                 with_reducible rfl
                rotate_left
                ·simp only [Act.put, List.setIfInBounds_toArray, List.set_cons_zero, List.set_cons_succ, i64_w, i32_w]
                 rfl
                refine take_ (i := 10) (N := some 73) (v := ?_) (a' := ?_) #[true, true, true, true, true, false, false, true, true, true, true, false, true, false, false, false, false] rfl rfl (take_ofW HT_.out HW_.out (by kernel_rfl)) (fun _ _ _ h => h) (Or.inl ⟨by rfl, ?_⟩) hHeld ?_ ?_
                rotate_left
                ·intro w' s0
                 go_simp
                 with_reducible rfl
                rotate_left
                ·simp only [Act.put, List.setIfInBounds_toArray, List.set_cons_zero, List.set_cons_succ, i64_w, i32_w]
                 rfl
                refine pure_ (i := 11) (N := some 74) (v := ?_) (a' := ?_) #[true, true, true, true, true, false, false, true, true, true, true, true, true, false, false, false, false] rfl rfl (any_of HT_.out (by kernel_rfl)) (fun _ _ _ h => h) (Or.inl ⟨by rfl, ?_⟩) ?_ ?_
                rotate_left
                ·intro w'
                 go_simp
                 with_reducible rfl
                rotate_left
                ·simp only [Act.put, List.setIfInBounds_toArray, List.set_cons_zero, List.set_cons_succ, i64_w, i32_w]
                 rfl
                refine pure_ (i := 13) (N := some 76) (v := ?_) (a' := ?_) #[true, true, true, true, true, false, false, true, true, true, true, true, true, true, false, false, false] rfl rfl (any_of HT_.out (by kernel_rfl)) (fun _ _ _ h => h) (Or.inl ⟨by rfl, ?_⟩) ?_ ?_
                rotate_left
                ·intro w'
                 go_simp
                 with_reducible rfl
                rotate_left
                ·simp only [Act.put, List.setIfInBounds_toArray, List.set_cons_zero, List.set_cons_succ, i64_w, i32_w]
                 rfl
                refine one_ (i := 5) (N := some 68) #[true, true, true, true, true, true, false, true, true, true, true, true, true, true, false, false, false] rfl rfl (one_of HT_.out (by kernel_rfl)) (by decide) (fun K hK => ?_)
                refine goes_ Try.func59 (by kernel_rfl) rfl #[.string (⟨#[40]⟩ : ByteArray), .int .i64 (wrap64 ((plait_opens a0) - (rd x10_1 x8_1)))] (by rfl) rfl rfl (by (try simp only [List.map_toArray, List.map_cons, List.map_nil]); first | done | rfl | (simp only [List.length_drop, List.length_take]; rfl)) ?_
                with_reducible refine (strings_Repeat.calls (⟨#[40]⟩ : ByteArray) (wrap64 ((plait_opens a0) - (rd x10_1 x8_1))) t198 _ A36.out).mono ?_
                rintro e w44 ⟨rfl, hb⟩
                have HS0_ := (hb.cell (World.block_lt_of_cell? _ _ (hHeld))).trans (hHeld)
                refine ⟨_, rfl, ?_⟩
                have n0_ := Aside0.mk (Kd.R_below (by (with_reducible repeat (first | apply Kd.R_alloc | apply Kd.R_drewN | apply Kd.R_drew)); exact HO_9.out) hb)
                have n1_ := Aside0.mk (Kd.R_below (by (with_reducible repeat (first | apply Kd.R_alloc | apply Kd.R_drewN | apply Kd.R_drew)); exact HO_10.out) hb)
                have n2_ := Aside0.mk (below_step (by repeat (first | (with_reducible first | exact HB.out | apply below_alloc | apply pw_below_drewN | apply below_drew1) | exact HB.out)) hb)
                clear HO_9
                clear HO_10
                clear HB
                have HO_9 := n0_
                have HO_10 := n1_
                have HB := n2_
                clear n0_ n1_ n2_
                (try clear hb)
                (try clear hb2)
                (try clear hk)
                (try clear hi)
                refine hK.out _ _ (HS0_) (fun hHeld => ?_)
                clear hK K
                refine norm_ (a' := ?_) ?_ ?_
                rotate_left
                ·show Act.put _ (some 68) _ = _
                 simp only [Act.put, List.setIfInBounds_toArray, List.set_cons_zero, List.set_cons_succ, i64_w, i32_w]
                 rfl
                refine pure_ (i := 6) (N := some 69) (v := ?_) (a' := ?_) #[true, true, true, true, true, true, true, true, true, true, true, true, true, true, false, false, false] rfl rfl (any_of HT_.out (by kernel_rfl)) (fun _ _ _ h => h) (Or.inl ⟨by rfl, ?_⟩) ?_ ?_
                rotate_left
                ·intro w'
                 go_simp
                 with_reducible rfl
                rotate_left
                ·simp only [Act.put, List.setIfInBounds_toArray, List.set_cons_zero, List.set_cons_succ, i64_w, i32_w]
                 rfl
                refine one_ (i := 14) (N := some 77) #[true, true, true, true, true, true, true, true, true, true, true, true, true, true, true, false, false] rfl rfl (one_of HT_.out (by kernel_rfl)) (by decide) (fun K hK => ?_)
                refine goes_ Try.func59 (by kernel_rfl) rfl #[.string (⟨#[41]⟩ : ByteArray), .int .i64 (wrap64 ((wrap64 ((rd x9_1 x8_1) - 1)) + (wrap64 ((plait_opens a0) - (rd x10_1 x8_1)))))] (by rfl) rfl rfl (by (try simp only [List.map_toArray, List.map_cons, List.map_nil]); first | done | rfl | (simp only [List.length_drop, List.length_take]; rfl)) ?_
                with_reducible refine (strings_Repeat.calls (⟨#[41]⟩ : ByteArray) (wrap64 ((wrap64 ((rd x9_1 x8_1) - 1)) + (wrap64 ((plait_opens a0) - (rd x10_1 x8_1))))) t200 _ A39.out).mono ?_
                rintro e w45 ⟨rfl, hb⟩
                have HS0_ := (hb.cell (World.block_lt_of_cell? _ _ (hHeld))).trans (hHeld)
                refine ⟨_, rfl, ?_⟩
                have n0_ := Aside0.mk (Kd.R_below (by (with_reducible repeat (first | apply Kd.R_alloc | apply Kd.R_drewN | apply Kd.R_drew)); exact HO_9.out) hb)
                have n1_ := Aside0.mk (Kd.R_below (by (with_reducible repeat (first | apply Kd.R_alloc | apply Kd.R_drewN | apply Kd.R_drew)); exact HO_10.out) hb)
                have n2_ := Aside0.mk (below_step (by repeat (first | (with_reducible first | exact HB.out | apply below_alloc | apply pw_below_drewN | apply below_drew1) | exact HB.out)) hb)
                clear HO_9
                clear HO_10
                clear HB
                have HO_9 := n0_
                have HO_10 := n1_
                have HB := n2_
                clear n0_ n1_ n2_
                (try clear hb)
                (try clear hb2)
                (try clear hk)
                (try clear hi)
                refine hK.out _ _ (HS0_) (fun hHeld => ?_)
                clear hK K
                refine norm_ (a' := ?_) ?_ ?_
                rotate_left
                ·show Act.put _ (some 77) _ = _
                 simp only [Act.put, List.setIfInBounds_toArray, List.set_cons_zero, List.set_cons_succ, i64_w, i32_w]
                 rfl
                refine pure_ (i := 15) (N := some 78) (v := ?_) (a' := ?_) #[true, true, true, true, true, true, true, true, true, true, true, true, true, true, true, true, false] rfl rfl (any_of HT_.out (by kernel_rfl)) (fun _ _ _ h => h) (Or.inl ⟨by rfl, ?_⟩) ?_ ?_
                rotate_left
                ·intro w'
                 go_simp
                 with_reducible rfl
                rotate_left
                ·simp only [Act.put, List.setIfInBounds_toArray, List.set_cons_zero, List.set_cons_succ, i64_w, i32_w]
                 rfl
                refine pure_ (i := 16) (N := some 2) (v := ?_) (a' := ?_) #[true, true, true, true, true, true, true, true, true, true, true, true, true, true, true, true, true] rfl rfl (any_of HT_.out (by kernel_rfl)) (fun _ _ _ h => h) (Or.inl ⟨by rfl, ?_⟩) ?_ ?_
                rotate_left
                ·intro w'
                 go_simp
                 with_reducible rfl
                rotate_left
                ·simp only [Act.put, List.setIfInBounds_toArray, List.set_cons_zero, List.set_cons_succ, i64_w, i32_w]
                 rfl
                refine done_ (done_of HT_.out (by kernel_rfl)) ?_
                try go_wp2
                go_ret
                exact ⟨by first | rfl | (simp [errW_none, errW_some] <;> rfl) | (simp [*, errW_none, errW_some] <;> rfl), by repeat (first | (with_reducible first | exact HB.out | apply below_alloc | apply pw_below_drewN | apply below_drew1) | exact HB.out)⟩
               ·rw [if_neg c40] at H
                exact absurd H (by simp)
              ·rw [if_neg c38] at H
               exact absurd H (by simp)
             ·rw [if_neg c37] at H
              exact absurd H (by simp)
            ·rw [if_neg c35] at H
             exact absurd H (by simp)
           ·rw [if_neg c34] at H
            exact absurd H (by simp)
          ·rw [if_neg c32] at H
           exact absurd H (by simp)
         ·rw [if_neg c31] at H
          exact absurd H (by simp)
  ·rw [if_neg c3] at H
   exact absurd H (by simp)
 ·rw [if_neg c2] at H
  exact absurd H (by simp)
end Go.Proofs.Ytjfkompfkgjdaaa.PC
end
