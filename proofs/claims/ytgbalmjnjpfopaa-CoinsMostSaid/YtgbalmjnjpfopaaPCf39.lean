-- Printed by a program of this session (mkprint.sh, over the kit's print.py), with own proofs for the functions that the print does not take.
import Derived.Test.YtgbalmjnjpfopaaPCx0
import Derived.Outline
import Derived.Test.YtgbalmjnjpfopaaHBack
namespace Go.Proofs.Ytgbalmjnjpfopaa.PC
open Go.RowKit Go.Proofs.YtgbalmjnjpfopaaW.PrintWords Go.Proofs.YtgbalmjnjpfopaaW.PrintLast Go.Proofs.YtgbalmjnjpfopaaW.PrintMore
attribute [local go_sem] max2_int min2_int max_two min_two max_three min_three max_four min_four   -- for this text's walks alone
set_option linter.unusedVariables false
set_option linter.unusedSimpArgs false

/-! ### slices_Max_int_int: function 39 -/
/-- slices.Max of a slice that is not empty -/
def slices_Max_int_int.f (k : Nat) (l0 : List Int) : Option (Int) :=
  if 0 < l0.length ∧ l0.length ≤ 1000000 then some (l0.tail.foldl (fun m x => mx m x) (rd l0 0)) else none
theorem slices_Max_int_int.mono : ∀ a0 k, LeO (slices_Max_int_int.f k a0) (slices_Max_int_int.f (k + 1) a0) := fun _ _ => LeO.refl _

section
theorem slices_Max_int_int.walk (A0 : Option Addr) (c0 : Nat) (l0 : List Int) (w : World) (hr0 : Kd.C (Kd.int .i64) w A0 l0.length l0) (h1 : 0 < l0.length) (h2 : l0.length ≤ 1000000) :
    Calls Try.prog 39 #[.slice A0 l0.length c0] w fun e w' => e = .returned (.int .i64 (l0.tail.foldl (fun m x => mx m x) (rd l0 0))) ∧ Drawn0 w w' := by
  obtain ⟨ad, e, hx⟩ := Kd.at_int hr0 0 (by omega) (by omega)
  subst e
  rw [show (0 : Int).toNat = 0 from rfl, Addr.add_zero'] at hx
  have hcs : ∀ q : Nat, q < l0.length → w.cell? (ad.add q) = some (.int .i64 (rd l0 (q : Int))) := by
    intro q hq
    obtain ⟨ad', e', hx'⟩ := Kd.at_int hr0 (q : Int) (by omega) (by omega)
    cases e'
    rwa [Int.toNat_natCast] at hx'
  have HCS := Lib.hid hcs
  clear hcs hr0
  obtain ⟨n, hn⟩ : ∃ n, l0.length = n := ⟨_, rfl⟩
  rw [hn] at h1 h2 ⊢
  have HN := Lib.hid hn
  clear hn
  have d1 : decide ((n : Int) < 1) = false := decide_eq_false (by omega)
  have d2 : decide (n < 1) = false := decide_eq_false (by omega)
  go_enter Try.func39, Try.ntmps39
  go_wp2
  go_loop [3, 4] (fun m i => ∃ q : Nat, 1 ≤ q ∧ q ≤ n ∧ i = .int .i64 (q : Int) ∧ m = .int .i64 ((l0.take q).tail.foldl (fun m x => mx m x) (rd l0 0))) (fun _ i => n - (intOf i).toNat)
  case atStart => 
    refine ⟨1, Nat.le_refl _, h1, rfl, ?_⟩
    cases l0 with
    | nil => simp [rd]
    | cons x l => simp [rd]
  case round =>
    obtain ⟨q, q1, q2, rfl, rfl⟩ := hrel
    obtain ⟨mv, hmv⟩ : ∃ mv, (l0.take q).tail.foldl (fun m x => mx m x) (rd l0 0) = mv := ⟨_, rfl⟩
    rw [hmv]
    have HMV := Lib.hid hmv
    clear hmv
    by_cases hlt : q < n
    · have d3 : decide ((q : Int) < (n : Int)) = true := decide_eq_true (by omega)
      have hc := HCS.out q (by have := HN.out; omega)
      obtain ⟨xv, hxv⟩ : ∃ xv, rd l0 (q : Int) = xv := ⟨_, rfl⟩
      rw [hxv] at hc
      have HXV := Lib.hid hxv
      clear hxv
      go_wp2
      go_round
      case rel =>
        refine ⟨q + 1, by omega, by omega, by go_num, ?_⟩
        have hn := HN.out
        have hq : q < l0.length := by omega
        have e1 : l0.take (q + 1) = l0.take q ++ [rd l0 (q : Int)] := by
          rw [List.take_succ_eq_append_getElem hq]; simp [rd, List.getD_eq_getElem?_getD, hq]
        have e2 : (l0.take (q + 1)).tail = (l0.take q).tail ++ [rd l0 (q : Int)] := by
          rw [e1, List.tail_append_of_ne_nil (by intro h; have h' := congrArg List.length h; rw [List.length_take, List.length_nil] at h'; omega)]
        rw [e2, List.foldl_append, HMV.out, HXV.out]
        rfl
      case measure => simp [intOf]; omega
    · obtain rfl : q = n := by omega
      have d3 : decide ((q : Int) < (q : Int)) = false := decide_eq_false (by omega)
      go_wp2
      go_ret
      refine ⟨?_, Drawn0.refl _⟩
      have := HMV.out
      have hn := HN.out
      rw [List.take_of_length_le (by omega)] at this
      rw [this]
      rfl
theorem slices_Max_int_int.calls (k : Nat) (A0 : Option Addr) (c0 : Nat) (l0 : List Int) (r : Int) (w : World) (hr0 : Kd.C (Kd.int .i64) w A0 l0.length l0) (hc0 : l0.length ≤ c0) (h : slices_Max_int_int.f k l0 = some r) :
    Calls Try.prog 39 #[.slice A0 l0.length c0] w fun e w' => e = .returned (.int .i64 r) ∧ Drawn0 w w' := by
  unfold slices_Max_int_int.f at h
  split at h
  · rename_i hc
    obtain rfl := Option.some.inj h
    exact slices_Max_int_int.walk A0 c0 l0 w hr0 hc.1 hc.2
  · cases h
end


end Go.Proofs.Ytgbalmjnjpfopaa.PC
