-- Printed by a program of this session (mkprint.sh, over the kit's print.py), with own proofs for the functions that the print does not take.
import Derived.Test.YtfopeenjpdaacaaPCx0
import Derived.Outline
import Derived.Lib.Hide
namespace Go.Proofs.Ytfopeenjpdaacaa.PC
open Go.RowKit Go.Proofs.YtfopeenjpdaacaaW.PrintWords Go.Proofs.YtfopeenjpdaacaaW.PrintLast Go.Proofs.YtfopeenjpdaacaaW.PrintMore
attribute [local go_sem] max2_int min2_int max_two min_two max_three min_three max_four min_four   -- for this text's walks alone
set_option linter.unusedVariables false
set_option linter.unusedSimpArgs false

/-! ### chairs_wished: function 51 -/
/-- the errors of a row and wishes -/
def chairs_wished.f (a0 : Int) (l1 : List Int) : Option Int :=
  if a0 < 1 ∨ a0 > 30 then some 2 else if (l1.length : Int) > a0 then some 3 else if l1.all (fun w => decide (0 ≤ w ∧ w < a0)) = true then some 0 else some 2

section
theorem wished_lit (x m : Int) (b : Bool) (hb : decide (x < 0 ∨ m ≤ x) = b) (B : Nat) (w : World) (hcell : w.cell? ⟨B, 0, none⟩ = some (.int .i64 m)) :
    Calls Try.prog 67 #[.int .i64 x, .pointer (some ⟨B, 0, none⟩)] w fun e w' => e = .returned (.bool b) ∧ Drawn0 w w' := by
  subst hb
  have hc := hcell
  clear hcell
  by_cases h1 : x < 0
  · have d1 : decide (x < 0) = true := decide_eq_true h1
    have d2 : decide (x < 0 ∨ m ≤ x) = true := decide_eq_true (Or.inl h1)
    rw [d2]
    clear d2
    go_enter Try.func67, Try.ntmps67
    go_wp2
    go_ret
    exact ⟨rfl, Drawn0.refl _⟩
  · have d1 : decide (x < 0) = false := decide_eq_false h1
    obtain ⟨b, hb⟩ : ∃ b, decide (m ≤ x) = b := ⟨_, rfl⟩
    have d2 : decide (x < 0 ∨ m ≤ x) = b := by rw [← hb]; simp [h1]
    rw [d2]
    go_enter Try.func67, Try.ntmps67
    go_wp2
    go_ret
    exact ⟨rfl, Drawn0.refl _⟩
set_option maxHeartbeats 400000 in
theorem wished_IndexFunc (A0 : Option Addr) (c0 : Nat) (l0 : List Int) (m : Int) (B : Nat) (w : World) (hr0 : Kd.C (Kd.int .i64) w A0 l0.length l0) (hcell : w.cell? ⟨B, 0, none⟩ = some (.int .i64 m)) (hl : l0.length ≤ 1000000) (b0 : Bool) (hb0 : l0.any (fun x => decide (x < 0 ∨ m ≤ x)) = b0) :
    Calls Try.prog 77 #[.slice A0 l0.length c0, .func (.func 67) #[] #[.pointer (some ⟨B, 0, none⟩)]] w fun e w' => (∃ r : Int, e = .returned (.int .i64 r) ∧ decide (0 ≤ r) = b0) ∧ Drawn0 w w' := by
  have HB0 := Lib.hid hb0
  clear hb0
  obtain ⟨n, hn⟩ : ∃ n, l0.length = n := ⟨_, rfl⟩
  rw [hn] at hr0 hl ⊢
  have HR := Lib.hid hr0
  clear hr0
  have HN := Lib.hid hn
  clear hn
  have HC := Lib.hid hcell
  clear hcell
  go_enter Try.func77, Try.ntmps77
  go_wp2
  go_loopw [8] (fun i wr => ∃ q nd : Nat, q ≤ n ∧ i = .int .i64 (q : Int) ∧ wr = w.drewN nd ∧ Hid ((l0.take q).any (fun x => decide (x < 0 ∨ m ≤ x)) = false)) (fun i _ => n - (intOf i).toNat)
  case atStart => exact ⟨0, 0, Nat.zero_le _, rfl, rfl, Lib.hid rfl⟩
  case round =>
    obtain ⟨q, nd, hq, rfl, rfl, hno⟩ := hrel
    by_cases hlt : q < n
    · have d1 : decide ((q : Int) < (n : Int)) = true := decide_eq_true (by omega)
      obtain ⟨ad, e, hx⟩ := Kd.at_int HR.out (q : Int) (by omega) (by omega)
      subst e
      rw [Int.toNat_natCast] at hx
      obtain ⟨x, hxv⟩ : ∃ x, rd l0 (q : Int) = x := ⟨_, rfl⟩
      rw [hxv] at hx
      have HX := Lib.hid hxv
      clear hxv
      have hl0 : q < l0.length := by have := HN.out; omega
      have ht : (l0.take (q + 1)).any (fun x => decide (x < 0 ∨ m ≤ x)) = decide (x < 0 ∨ m ≤ x) := by
        have e1 : l0.take (q + 1) = l0.take q ++ [rd l0 (q : Int)] := by
          rw [List.take_succ_eq_append_getElem hl0]; simp [rd, List.getD_eq_getElem?_getD, hl0]
        rw [e1, List.any_append, hno.out, HX.out]; simp
      obtain ⟨b, hb⟩ : ∃ b, decide (x < 0 ∨ m ≤ x) = b := ⟨_, rfl⟩
      rw [hb] at ht
      have HT := Lib.hid ht
      have HB := Lib.hid hb
      clear ht hb
      cases b with
      | true =>
        go_wp2_with (go_at_call 67; refine (wished_lit x m _ HB.out B _ (show (w.drewN nd).cell? _ = _ from HC.out)).mono ?_; rintro e w' ⟨rfl, ⟨nd2, rfl⟩⟩)
        go_ret
        refine ⟨⟨_, rfl, ?_⟩, ⟨⟨nd + nd2, rfl⟩⟩⟩
        have h3 := HT.out
        rw [← HB0.out, decide_eq_true (by omega)]
        symm
        rw [List.any_eq_true] at h3 ⊢
        obtain ⟨y, hy, h4⟩ := h3
        exact ⟨y, List.mem_of_mem_take hy, h4⟩
      | false =>
        go_wp2_with (go_at_call 67; refine (wished_lit x m _ HB.out B _ (show (w.drewN nd).cell? _ = _ from HC.out)).mono ?_; rintro e w' ⟨rfl, ⟨nd2, rfl⟩⟩)
        go_round
        case rel => exact ⟨q + 1, nd + nd2, by omega, by go_num, by simp, HT⟩
        case measure => simp [intOf]; omega
    · obtain rfl : q = n := by omega
      have d1 : decide ((q : Int) < (q : Int)) = false := decide_eq_false (by omega)
      go_wp2
      go_ret
      have h3 := hno.out
      rw [List.take_of_length_le (by have := HN.out; omega)] at h3
      exact ⟨⟨-1, rfl, by rw [← HB0.out, h3]; rfl⟩, Drawn0.step (Drawn0.refl _) nd⟩
set_option maxHeartbeats 400000 in
theorem wished_ContainsFunc (A0 : Option Addr) (c0 : Nat) (l0 : List Int) (m : Int) (B : Nat) (w : World) (hr0 : Kd.C (Kd.int .i64) w A0 l0.length l0) (hcell : w.cell? ⟨B, 0, none⟩ = some (.int .i64 m)) (hl : l0.length ≤ 1000000) (b : Bool) (hb : l0.any (fun x => decide (x < 0 ∨ m ≤ x)) = b) :
    Calls Try.prog 66 #[.slice A0 l0.length c0, .func (.func 67) #[] #[.pointer (some ⟨B, 0, none⟩)]] w fun e w' => e = .returned (.bool b) ∧ Drawn0 w w' := by
  have HR := Lib.hid hr0
  have HC := Lib.hid hcell
  have HB := Lib.hid hb
  clear hr0 hcell hb
  go_enter Try.func66, Try.ntmps66
  go_wp2_with (go_at_call 77; refine (wished_IndexFunc A0 c0 l0 m B _ HR.out HC.out hl b HB.out).mono ?_; rintro e w' ⟨⟨r, rfl, hr⟩, ⟨nd, rfl⟩⟩)
  go_ret
  exact ⟨rfl, ⟨⟨_, rfl⟩⟩⟩
set_option maxHeartbeats 400000 in
theorem wished_walk (a0 : Int) (A1 : Option Addr) (c1 : Nat) (l1 : List Int) (w : World) (hr1 : Kd.C (Kd.int .i64) w A1 l1.length l1) (r : Int)
    (hr : (a0 < 1 ∧ r = 2) ∨ (¬ a0 < 1 ∧ a0 > 30 ∧ r = 2) ∨ (¬ a0 < 1 ∧ ¬ a0 > 30 ∧ (l1.length : Int) > a0 ∧ r = 3) ∨ (¬ a0 < 1 ∧ ¬ a0 > 30 ∧ ¬ (l1.length : Int) > a0 ∧ ∃ b, l1.any (fun x => decide (x < 0 ∨ a0 ≤ x)) = b ∧ r = if b = true then 2 else 0)) :
    Calls Try.prog 51 #[.int .i64 a0, .slice A1 l1.length c1] w fun e w' => e = .returned (.int .i64 r) ∧ Below w.heap.size w w' := by
  have HR : Hid (Kd.C (Kd.int .i64) (w.alloc (.cells #[.int .i64 a0] 3)) A1 l1.length l1) := Lib.hid (Kd.C_alloc hr1 _)
  clear hr1
  rcases hr with ⟨g1, rfl⟩ | ⟨g1, g2, rfl⟩ | ⟨g1, g2, g3, rfl⟩ | ⟨g1, g2, g3, b, hb, rfl⟩
  · have d1 : decide (a0 < 1) = true := decide_eq_true g1
    go_enter Try.func51, Try.ntmps51
    go_wp2
    go_ret
    exact ⟨rfl, (Below.refl _ w).alloc (Nat.le_refl _) _⟩
  · have d1 : decide (a0 < 1) = false := decide_eq_false g1
    have d2 : decide (30 < a0) = true := decide_eq_true g2
    go_enter Try.func51, Try.ntmps51
    go_wp2
    go_ret
    exact ⟨rfl, (Below.refl _ w).alloc (Nat.le_refl _) _⟩
  · have d1 : decide (a0 < 1) = false := decide_eq_false g1
    have d2 : decide (30 < a0) = false := decide_eq_false g2
    have d3 : decide (a0 < (l1.length : Int)) = true := decide_eq_true g3
    go_enter Try.func51, Try.ntmps51
    go_wp2
    go_ret
    exact ⟨rfl, (Below.refl _ w).alloc (Nat.le_refl _) _⟩
  · have d1 : decide (a0 < 1) = false := decide_eq_false g1
    have d2 : decide (30 < a0) = false := decide_eq_false g2
    have d3 : decide (a0 < (l1.length : Int)) = false := decide_eq_false g3
    have HB := Lib.hid hb
    clear hb
    have hl : l1.length ≤ 1000000 := by omega
    have hcell : ∀ o : Obj, o = .cells #[.int .i64 a0] 3 → (w.alloc o).cell? ⟨w.heap.size, 0, none⟩ = some (.int .i64 a0) := by
      rintro o rfl
      rw [World.cell?_alloc_at _ _ _ _ rfl]; rfl
    have HC := Lib.hid hcell
    clear hcell
    cases b with
    | true =>
      go_enter Try.func51, Try.ntmps51
      go_wp2_with (go_at_call 66; refine (wished_ContainsFunc A1 c1 l1 a0 w.heap.size _ HR.out (HC.out _ rfl) hl true HB.out).mono ?_; rintro e w' ⟨rfl, ⟨nd, rfl⟩⟩)
      go_ret
      exact ⟨rfl, pw_below_drewN ((Below.refl _ w).alloc (Nat.le_refl _) _) _⟩
    | false =>
      go_enter Try.func51, Try.ntmps51
      go_wp2_with (go_at_call 66; refine (wished_ContainsFunc A1 c1 l1 a0 w.heap.size _ HR.out (HC.out _ rfl) hl false HB.out).mono ?_; rintro e w' ⟨rfl, ⟨nd, rfl⟩⟩)
      go_ret
      exact ⟨rfl, pw_below_drewN ((Below.refl _ w).alloc (Nat.le_refl _) _) _⟩
theorem chairs_wished.calls (a0 : Int) (A1 : Option Addr) (c1 : Nat) (l1 : List Int) (r : Int) (w : World) (hr1 : Kd.C (Kd.int .i64) w A1 l1.length l1) (hc1 : l1.length ≤ c1) (h : chairs_wished.f a0 l1 = some r) :
    Calls Try.prog 51 #[.int .i64 a0, .slice A1 l1.length c1] w fun e w' => e = .returned (.int .i64 r) ∧ Below w.heap.size w w' := by
  unfold chairs_wished.f at h
  refine wished_walk a0 A1 c1 l1 w hr1 r ?_
  by_cases g1 : a0 < 1
  · rw [if_pos (Or.inl g1)] at h
    exact .inl ⟨g1, (Option.some.inj h).symm⟩
  by_cases g2 : a0 > 30
  · rw [if_pos (Or.inr g2)] at h
    exact .inr (.inl ⟨g1, g2, (Option.some.inj h).symm⟩)
  rw [if_neg (by omega)] at h
  by_cases g3 : (l1.length : Int) > a0
  · rw [if_pos g3] at h
    exact .inr (.inr (.inl ⟨g1, g2, g3, (Option.some.inj h).symm⟩))
  rw [if_neg g3] at h
  refine .inr (.inr (.inr ⟨g1, g2, g3, _, rfl, ?_⟩))
  by_cases g4 : l1.all (fun w => decide (0 ≤ w ∧ w < a0)) = true
  · rw [if_pos g4] at h
    rw [if_neg ?_]
    · exact (Option.some.inj h).symm
    · intro h5
      obtain ⟨x, hx, h6⟩ := List.any_eq_true.1 h5
      have h7 := List.all_eq_true.1 g4 x hx
      simp at h6 h7
      omega
  · rw [if_neg g4] at h
    rw [if_pos ?_]
    · exact (Option.some.inj h).symm
    · cases h5 : l1.any (fun x => decide (x < 0 ∨ a0 ≤ x)) with
      | true => rfl
      | false =>
        exfalso
        refine g4 (List.all_eq_true.2 fun x hx => ?_)
        have h6 := List.any_eq_false.1 h5 x hx
        simp at h6 ⊢
        omega
end


end Go.Proofs.Ytfopeenjpdaacaa.PC
