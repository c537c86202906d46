-- Printed by a program of this session (mkprint.sh, over the kit's print.py), with own proofs for the functions that the print does not take.
import Derived.Test.YtfopeenjpdaacaaPCf24
import Derived.Test.YtfopeenjpdaacaaPCf38
import Derived.Test.YtfopeenjpdaacaaPCg2
import Derived.Test.YtfopeenjpdaacaaPCg3
import Derived.Test.YtfopeenjpdaacaaPCx0
import Derived.Lib.Hide
namespace Go.Proofs.Ytfopeenjpdaacaa.PC
open Go.RowKit Go.Proofs.YtfopeenjpdaacaaW.PrintWords Go.Proofs.YtfopeenjpdaacaaW.PrintLast Go.Proofs.YtfopeenjpdaacaaW.PrintMore
attribute [local go_sem] max2_int min2_int max_two min_two max_three min_three max_four min_four   -- for this text's walks alone
set_option linter.unusedVariables false
set_option linter.unusedSimpArgs false

/-! ### pomadelaw03_alive: function 17 -/
/-- the closed example is true (its walk below runs with its known answers) -/
def pomadelaw03_alive.f : Option (Bool) := some true

section
theorem lit_C (W : World) (xs : List Int) (hl : xs.length ≤ 1000) : Kd.C (Kd.int .i64) (W.alloc (.cells (nums .i64 xs).toArray 3)) (some ⟨W.heap.size, 0, none⟩) xs.length xs := by
  have h := own_lit W 0 3 .i64 xs (Nat.zero_le _) (by omega)
  have hR : Kd.R (Kd.int .i64) 3 (W.alloc (.cells (nums .i64 xs).toArray 3)) 0 (fun _ => True) (.slice (some ⟨W.heap.size, 0, none⟩) xs.length xs.length) xs := Kd.R_of_own h (fun _ _ => trivial)
  obtain ⟨A, c, e, _, hC⟩ := Kd.R_reads hR
  injection e with e1 e2 e3
  subst e1
  exact hC
theorem step_below {w w1 w2 : World} (h : Below w.heap.size w w1) (hb : Below w1.heap.size w1 w2) : Below w.heap.size w w2 := h.trans (hb.mono h.size)
theorem spread3 : chairs_Spread.f 3 = some ([6, 6, 3, 1], 0) := by
  have h := MSpread.row_of (n := 2) (by omega)
  unfold chairs_Spread.f
  rw [if_neg (by omega)]
  show some ((chairs_Spread.row (chairs_Spread.known 2) (2 + 1)).map (fun x : Nat => (x : Int)), (0 : Int)) = _
  rw [h]
  rfl
theorem alive_h1 (W : World) : Calls Try.prog 31 #[.int .i64 3, .slice (some ⟨W.heap.size, 0, none⟩) 3 3] (W.alloc (.cells #[.int .i64 0, .int .i64 0, .int .i64 1] 3)) fun e w' => ∃ A c, e = .returned (.tuple #[.slice A 3 c, .int .i64 0]) ∧ Hid (3 ≤ c ∧ Kd.C (Kd.int .i64) w' A 3 [0, 1, 2]) ∧ Hid (Below W.heap.size W w') :=
  (chairs_Sit.calls 100 3 _ 3 [0, 0, 1] [0, 1, 2] 0 _ (lit_C W [0, 0, 1] (by simp)) (by simp) (by decide +kernel)).mono fun e w' ⟨v0, he, hr, hb⟩ => by
    obtain ⟨A, c, rfl, hc, hC⟩ := Kd.R_reads hr
    exact ⟨A, c, he, Lib.hid ⟨hc, hC⟩, Lib.hid (((Below.refl _ W).alloc (Nat.le_refl _) _).trans (hb.mono (by simp)))⟩
theorem alive_h2 (W : World) : Calls Try.prog 22 #[.int .i64 3, .slice (some ⟨W.heap.size, 0, none⟩) 3 3] (W.alloc (.cells #[.int .i64 1, .int .i64 1, .int .i64 2] 3)) fun e w' => e = .returned (.tuple #[.int .i64 3, .int .i64 0]) ∧ Hid (Below W.heap.size W w') :=
  (chairs_Turn.calls 100 3 _ 3 [1, 1, 2] 3 0 _ (lit_C W [1, 1, 2] (by simp)) (by simp) (by decide +kernel)).mono fun e w' ⟨he, hb⟩ => ⟨he, Lib.hid (((Below.refl _ W).alloc (Nat.le_refl _) _).trans (hb.mono (by simp)))⟩
theorem alive_h3 (W : World) : Calls Try.prog 18 #[.int .i64 3, .int .i64 3] W fun e w' => e = .returned (.tuple #[.int .i64 16, .int .i64 0]) ∧ Hid (Below W.heap.size W w') :=
  (chairs_Count.calls 100 3 3 16 0 _ (by decide +kernel)).mono fun e w' ⟨he, hb⟩ => ⟨he, Lib.hid (hb.below)⟩
theorem alive_h4 (W : World) : Calls Try.prog 20 #[.slice (some ⟨W.heap.size, 0, none⟩) 3 3] (W.alloc (.cells #[.int .i64 0, .int .i64 1, .int .i64 2] 3)) fun e w' => e = .returned (.tuple #[.int .i64 6, .int .i64 0]) ∧ Hid (Below W.heap.size W w') :=
  (chairs_Ways.calls 100 _ 3 [0, 1, 2] 6 0 _ (lit_C W [0, 1, 2] (by simp)) (by simp) (by decide +kernel)).mono fun e w' ⟨he, hb⟩ => ⟨he, Lib.hid (((Below.refl _ W).alloc (Nat.le_refl _) _).trans (hb.mono (by simp)))⟩
theorem alive_h5 (W : World) : Calls Try.prog 38 #[.slice (some ⟨W.heap.size, 0, none⟩) 3 3] (W.alloc (.cells #[.int .i64 0, .int .i64 0, .int .i64 1] 3)) fun e w' => ∃ A c, e = .returned (.tuple #[.slice A 3 c, .int .i64 0]) ∧ Hid (3 ≤ c ∧ Kd.C (Kd.int .i64) w' A 3 [0, 0, 1]) ∧ Hid (Below W.heap.size W w') :=
  (chairs_Tree.calls 100 _ 3 [0, 0, 1] [0, 0, 1] 0 _ (lit_C W [0, 0, 1] (by simp)) (by simp) (by decide +kernel)).mono fun e w' ⟨v0, he, hr, hb⟩ => by
    obtain ⟨A, c, rfl, hc, hC⟩ := Kd.R_reads hr
    exact ⟨A, c, he, Lib.hid ⟨hc, hC⟩, Lib.hid (((Below.refl _ W).alloc (Nat.le_refl _) _).trans (hb.mono (by simp)))⟩
theorem alive_h6 (W : World) : Calls Try.prog 24 #[.int .i64 3] W fun e w' => ∃ A c, e = .returned (.tuple #[.slice A 4 c, .int .i64 0]) ∧ Hid (4 ≤ c ∧ Kd.C (Kd.int .i64) w' A 4 [6, 6, 3, 1]) ∧ Hid (Below W.heap.size W w') :=
  (chairs_Spread.calls 3 [6, 6, 3, 1] 0 _ spread3).mono fun e w' ⟨v0, he, hr, hb⟩ => by
    obtain ⟨A, c, rfl, hc, hC⟩ := Kd.R_reads hr
    exact ⟨A, c, he, Lib.hid ⟨hc, hC⟩, Lib.hid (hb)⟩
theorem alive_h7 (W : World) (A : Option Addr) (c : Nat) (hc : 3 ≤ c ∧ Kd.C (Kd.int .i64) W A 3 [0, 1, 2]) : Calls Try.prog 26 #[.slice A 3 c, .slice (some ⟨W.heap.size, 0, none⟩) 3 3] (W.alloc (.cells #[.int .i64 0, .int .i64 1, .int .i64 2] 3)) fun e w' => e = .returned (.bool true) ∧ Hid (Below W.heap.size W w') :=
  (pomadelaw03_same.calls 100 A c [0, 1, 2] _ 3 [0, 1, 2] true _ (Kd.C_alloc hc.2 _) hc.1 (lit_C W [0, 1, 2] (by simp)) (by simp) (by decide +kernel)).mono fun e w' ⟨he, hb⟩ => ⟨he, Lib.hid (((Below.refl _ W).alloc (Nat.le_refl _) _).trans (hb.below.mono (by simp)))⟩
theorem alive_h8 (W : World) (A : Option Addr) (c : Nat) (hc : 3 ≤ c ∧ Kd.C (Kd.int .i64) W A 3 [0, 0, 1]) : Calls Try.prog 26 #[.slice A 3 c, .slice (some ⟨W.heap.size, 0, none⟩) 3 3] (W.alloc (.cells #[.int .i64 0, .int .i64 0, .int .i64 1] 3)) fun e w' => e = .returned (.bool true) ∧ Hid (Below W.heap.size W w') :=
  (pomadelaw03_same.calls 100 A c [0, 0, 1] _ 3 [0, 0, 1] true _ (Kd.C_alloc hc.2 _) hc.1 (lit_C W [0, 0, 1] (by simp)) (by simp) (by decide +kernel)).mono fun e w' ⟨he, hb⟩ => ⟨he, Lib.hid (((Below.refl _ W).alloc (Nat.le_refl _) _).trans (hb.below.mono (by simp)))⟩
theorem alive_h9 (W : World) (A : Option Addr) (c : Nat) (hc : 4 ≤ c ∧ Kd.C (Kd.int .i64) W A 4 [6, 6, 3, 1]) : Calls Try.prog 26 #[.slice A 4 c, .slice (some ⟨W.heap.size, 0, none⟩) 4 4] (W.alloc (.cells #[.int .i64 6, .int .i64 6, .int .i64 3, .int .i64 1] 3)) fun e w' => e = .returned (.bool true) ∧ Hid (Below W.heap.size W w') :=
  (pomadelaw03_same.calls 100 A c [6, 6, 3, 1] _ 4 [6, 6, 3, 1] true _ (Kd.C_alloc hc.2 _) hc.1 (lit_C W [6, 6, 3, 1] (by simp)) (by simp) (by decide +kernel)).mono fun e w' ⟨he, hb⟩ => ⟨he, Lib.hid (((Below.refl _ W).alloc (Nat.le_refl _) _).trans (hb.below.mono (by simp)))⟩
set_option maxRecDepth 100000 in
set_option maxHeartbeats 4000000 in
theorem pomadelaw03_alive.calls  (r : Bool) (w : World) (h : pomadelaw03_alive.f  = some r) :
    Calls Try.prog 17 #[] w fun e w' => e = .returned (.bool r) ∧ Below w.heap.size w w' := by
  obtain rfl : r = true := (Option.some.inj h).symm
  clear h
  go_enter Try.func17, Try.ntmps17
  go_wp2_with fail
  refine (alive_h1 _).mono ?_
  rintro e w1 ⟨A1, c1, rfl, C1, B1⟩
  go_wp2_with fail
  refine (alive_h2 _).mono ?_
  rintro e w2 ⟨rfl, B2⟩
  go_wp2_with fail
  refine (alive_h3 _).mono ?_
  rintro e w3 ⟨rfl, B3⟩
  go_wp2_with fail
  refine (alive_h4 _).mono ?_
  rintro e w4 ⟨rfl, B4⟩
  go_wp2_with fail
  refine (alive_h5 _).mono ?_
  rintro e w5 ⟨A5, c5, rfl, C5, B5⟩
  go_wp2_with fail
  refine (alive_h6 _).mono ?_
  rintro e w6 ⟨A6, c6, rfl, C6, B6⟩
  have M26 := Lib.hid (step_below (step_below (step_below (step_below B2.out B3.out) B4.out) B5.out) B6.out)
  go_wp2_with fail
  refine (alive_h7 _ A1 c1 ⟨C1.out.1, Kd.C_below C1.out.2 M26.out⟩).mono ?_
  rintro e w7 ⟨rfl, B7⟩
  have M67 := Lib.hid (step_below B6.out B7.out)
  go_wp2_with fail
  refine (alive_h8 _ A5 c5 ⟨C5.out.1, Kd.C_below C5.out.2 M67.out⟩).mono ?_
  rintro e w8 ⟨rfl, B8⟩
  have M78 := Lib.hid (step_below B7.out B8.out)
  go_wp2_with fail
  refine (alive_h9 _ A6 c6 ⟨C6.out.1, Kd.C_below C6.out.2 M78.out⟩).mono ?_
  rintro e w9 ⟨rfl, B9⟩
  go_wp2_with fail
  go_ret
  exact ⟨rfl, step_below (step_below B1.out M26.out) (step_below M78.out B9.out)⟩
end


end Go.Proofs.Ytfopeenjpdaacaa.PC
