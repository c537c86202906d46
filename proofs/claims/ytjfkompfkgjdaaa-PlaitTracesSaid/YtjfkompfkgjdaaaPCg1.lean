-- Printed by a program of this session (mkprint.sh, over the kit's print.py), with own proofs for the functions that the print does not take.
import Derived.Test.YtjfkompfkgjdaaaPCf21
import Derived.Test.YtjfkompfkgjdaaaPCf24
import Derived.Test.YtjfkompfkgjdaaaPCf27
import Derived.Test.YtjfkompfkgjdaaaPCg2
import Derived.Test.YtjfkompfkgjdaaaPCg5
import Derived.Test.YtjfkompfkgjdaaaPCx0
import Derived.Lib.Hide
namespace Go.Proofs.Ytjfkompfkgjdaaa.PC
open Go.RowKit Go.Proofs.YtjfkompfkgjdaaaW.PrintWords Go.Proofs.YtjfkompfkgjdaaaW.PrintLast Go.Proofs.YtjfkompfkgjdaaaW.PrintMore
attribute [local go_sem] max2_int min2_int max_two min_two max_three min_three max_four min_four   -- for this text's walks alone
set_option linter.unusedVariables false
set_option linter.unusedSimpArgs false

/-! ### pomadelaw07_alive: function 20 -/
/-- the closed example of the chapter: it is so -/
def pomadelaw07_alive.f : Option (Bool) := some true

section
theorem lit_C (W : World) (xs : List Int) (hl : xs.length ≤ 1000) : Kd.C (Kd.int .i64) (W.alloc (.cells (nums .i64 xs).toArray 3)) (some ⟨W.heap.size, 0, none⟩) xs.length xs := by
  have h := own_lit W 0 3 .i64 xs (Nat.zero_le _) (by omega)
  have hR : Kd.R (Kd.int .i64) 3 (W.alloc (.cells (nums .i64 xs).toArray 3)) 0 (fun _ => True) (.slice (some ⟨W.heap.size, 0, none⟩) xs.length xs.length) xs := Kd.R_of_own h (fun _ _ => trivial)
  obtain ⟨A, c, e, _, hC⟩ := Kd.R_reads hR
  injection e with e1 e2 e3
  subst e1
  exact hC
theorem step_below {w w1 w2 : World} (h : Below w.heap.size w w1) (hb : Below w1.heap.size w1 w2) : Below w.heap.size w w2 := h.trans (hb.mono h.size)
theorem lit_C2 (W : World) (xs ys : List Int) (hl : ys.length ≤ 1000) : Kd.C (Kd.int .i64) ((W.alloc (.cells (nums .i64 xs).toArray 3)).alloc (.cells (nums .i64 ys).toArray 3)) (some ⟨W.heap.size + 1, 0, none⟩) ys.length ys := by
  have h := lit_C (W.alloc (.cells (nums .i64 xs).toArray 3)) ys hl
  have e : (W.alloc (.cells (nums .i64 xs).toArray 3)).heap.size = W.heap.size + 1 := by simp
  rw [e] at h
  exact h
theorem alive_h1 (W : World) : Calls Try.prog 27 #[.slice (some ⟨W.heap.size, 0, none⟩) 4 4, .slice (some ⟨W.heap.size + 1, 0, none⟩) 4 4] ((W.alloc (.cells #[.int .i64 1, .int .i64 0, .int .i64 3, .int .i64 2] 3)).alloc (.cells #[.int .i64 1, .int .i64 0, .int .i64 3, .int .i64 2] 3)) fun e w' => ∃ A c, e = .returned (.tuple #[.slice A 4 c, .int .i64 1, .int .i64 0]) ∧ Hid (4 ≤ c ∧ Kd.C (Kd.int .i64) w' A 4 [1, 0, 3, 2]) ∧ Hid (Below W.heap.size W w') :=
  (plait_Product.calls 3000 _ 4 [1, 0, 3, 2] _ 4 [1, 0, 3, 2] [1, 0, 3, 2] 1 0 _ (Kd.C_alloc (lit_C W [1, 0, 3, 2] (by simp)) _) (by simp) (lit_C2 W [1, 0, 3, 2] [1, 0, 3, 2] (by simp)) (by simp) (by decide +kernel)).mono fun e w' ⟨v0, he, hr, hb⟩ => by
    obtain ⟨A, c, rfl, hc, hC⟩ := Kd.R_reads hr
    exact ⟨A, c, he, Lib.hid ⟨hc, hC⟩, Lib.hid ((((Below.refl _ W).alloc (Nat.le_refl _) _).alloc (by simp) _).trans (hb.mono (by simp; omega)))⟩
theorem alive_h2 (W : World) : Calls Try.prog 21 #[.slice (some ⟨W.heap.size, 0, none⟩) 6 6] (W.alloc (.cells #[.int .i64 1, .int .i64 0, .int .i64 5, .int .i64 4, .int .i64 3, .int .i64 2] 3)) fun e w' => ∃ A c, e = .returned (.tuple #[.slice A 1 c, .int .i64 0]) ∧ Hid (1 ≤ c ∧ Kd.C (Kd.int .i64) w' A 1 [0]) ∧ Hid (Below W.heap.size W w') :=
  (plait_Word.calls 3000 _ 6 [1, 0, 5, 4, 3, 2] [0] 0 _ (lit_C W [1, 0, 5, 4, 3, 2] (by simp)) (by simp) (by decide +kernel)).mono fun e w' ⟨v0, he, hr, hb⟩ => by
    obtain ⟨A, c, rfl, hc, hC⟩ := Kd.R_reads hr
    exact ⟨A, c, he, Lib.hid ⟨hc, hC⟩, Lib.hid (((Below.refl _ W).alloc (Nat.le_refl _) _).trans (hb.mono (by simp)))⟩
theorem alive_h3 (W : World) : Calls Try.prog 30 #[.string ⟨#[40, 41, 40, 41]⟩, .string ⟨#[40, 40, 41, 41]⟩] W fun e w' => e = .returned (.tuple #[.int .i64 1, .int .i64 0]) ∧ Hid (Below W.heap.size W w') :=
  (plait_Roads.calls 3000 ⟨#[40, 41, 40, 41]⟩ ⟨#[40, 40, 41, 41]⟩ 1 0 _ (by decide +kernel)).mono fun e w' ⟨he, hb⟩ => ⟨he, Lib.hid hb⟩
theorem alive_h4 (W : World) : Calls Try.prog 24 #[.int .i64 2, .int .i64 2] W fun e w' => e = .returned (.tuple #[.int .i64 2, .int .i64 0]) ∧ Hid (Below W.heap.size W w') :=
  (plait_Meanders.calls 3000 2 2 2 0 _ (by decide +kernel)).mono fun e w' ⟨he, hb⟩ => ⟨he, Lib.hid hb⟩
theorem alive_h5 (W : World) : Calls Try.prog 29 #[.slice (some ⟨W.heap.size, 0, none⟩) 4 4] (W.alloc (.cells #[.int .i64 2, .int .i64 3, .int .i64 0, .int .i64 1] 3)) fun e w' => e = .returned (.tuple #[.int .i64 2, .int .i64 0]) ∧ Hid (Below W.heap.size W w') :=
  (plait_Closed.calls 3000 _ 4 [2, 3, 0, 1] 2 0 _ (lit_C W [2, 3, 0, 1] (by simp)) (by simp) (by decide +kernel)).mono fun e w' ⟨he, hb⟩ => ⟨he, Lib.hid (((Below.refl _ W).alloc (Nat.le_refl _) _).trans (hb.mono (by simp)))⟩
theorem alive_h6 (W : World) (A : Option Addr) (c : Nat) (hc : 4 ≤ c ∧ Kd.C (Kd.int .i64) W A 4 [1, 0, 3, 2]) : Calls Try.prog 23 #[.slice A 4 c, .slice (some ⟨W.heap.size, 0, none⟩) 4 4] (W.alloc (.cells #[.int .i64 1, .int .i64 0, .int .i64 3, .int .i64 2] 3)) fun e w' => e = .returned (.bool true) ∧ Hid (Below W.heap.size W w') :=
  (pomadelaw07_same.calls 100 A c [1, 0, 3, 2] _ 4 [1, 0, 3, 2] true _ (Kd.C_alloc hc.2 _) hc.1 (lit_C W [1, 0, 3, 2] (by simp)) (by simp) (by decide +kernel)).mono fun e w' ⟨he, hb⟩ => ⟨he, Lib.hid (((Below.refl _ W).alloc (Nat.le_refl _) _).trans (hb.below.mono (by simp)))⟩
theorem alive_h7 (W : World) (A : Option Addr) (c : Nat) (hc : 1 ≤ c ∧ Kd.C (Kd.int .i64) W A 1 [0]) : Calls Try.prog 23 #[.slice A 1 c, .slice (some ⟨W.heap.size, 0, none⟩) 1 1] (W.alloc (.cells #[.int .i64 0] 3)) fun e w' => e = .returned (.bool true) ∧ Hid (Below W.heap.size W w') :=
  (pomadelaw07_same.calls 100 A c [0] _ 1 [0] true _ (Kd.C_alloc hc.2 _) hc.1 (lit_C W [0] (by simp)) (by simp) (by decide +kernel)).mono fun e w' ⟨he, hb⟩ => ⟨he, Lib.hid (((Below.refl _ W).alloc (Nat.le_refl _) _).trans (hb.below.mono (by simp)))⟩
set_option maxRecDepth 100000 in
set_option maxHeartbeats 4000000 in
theorem pomadelaw07_alive.calls  (r : Bool) (w : World) (h : pomadelaw07_alive.f  = some r) :
    Calls Try.prog 20 #[] w fun e w' => e = .returned (.bool r) ∧ Below w.heap.size w w' := by
  obtain rfl : r = true := (Option.some.inj h).symm
  clear h
  go_enter Try.func20, Try.ntmps20
  go_wp2_with fail
  refine (alive_h1 _).mono ?_
  rintro e w1 ⟨A1, c1, rfl, C1, B1⟩
  go_wp2_with fail
  refine (alive_h2 _).mono ?_
  rintro e w2 ⟨A2, c2, rfl, C2, B2⟩
  go_wp2_with fail
  refine (alive_h3 _).mono ?_
  rintro e w3 ⟨rfl, B3⟩
  go_wp2_with fail
  refine (alive_h4 _).mono ?_
  rintro e w4 ⟨rfl, B4⟩
  go_wp2_with fail
  refine (alive_h5 _).mono ?_
  rintro e w5 ⟨rfl, B5⟩
  have M25 := Lib.hid (step_below (step_below (step_below B2.out B3.out) B4.out) B5.out)
  go_wp2_with fail
  refine (alive_h6 _ A1 c1 ⟨C1.out.1, Kd.C_below C1.out.2 M25.out⟩).mono ?_
  rintro e w6 ⟨rfl, B6⟩
  have M36 := Lib.hid (step_below (step_below (step_below B3.out B4.out) B5.out) B6.out)
  go_wp2_with fail
  refine (alive_h7 _ A2 c2 ⟨C2.out.1, Kd.C_below C2.out.2 M36.out⟩).mono ?_
  rintro e w7 ⟨rfl, B7⟩
  go_wp2_with fail
  go_ret
  exact ⟨rfl, step_below (step_below (step_below B1.out B2.out) M36.out) B7.out⟩
end


end Go.Proofs.Ytjfkompfkgjdaaa.PC
