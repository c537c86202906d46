/- The number of ways to choose, below 10. -/
import Derived.Test.YtfopeenjpdaacaaHLine
import Derived.Test.YtfopeenjpdaacaaMSpread
namespace Go.Proofs.Ytfopeenjpdaacaa.PC
open Go.RowKit Go.Proofs.YtfopeenjpdaacaaW.PrintWords Go.Proofs.YtfopeenjpdaacaaW.PrintLast Go.Proofs.YtfopeenjpdaacaaW.PrintMore
set_option maxHeartbeats 400000 in
theorem choose_walk (n i : Nat) (hn : n < 10) (hi : i ≤ n) (w : World) :
    Calls Try.prog 71 #[.int .i64 (n : Int), .int .i64 (i : Int)] w fun e w' => e = .returned (.int .i64 ((chairs_Spread.ch n i : Nat) : Int)) ∧ w = w' := by
  go_enter Try.func71, Try.ntmps71
  go_wp2
  go_loop [5, 8] (fun o k => ∃ q : Nat, q ≤ i ∧ k = .int .i64 (q : Int) ∧ o = .int .i64 ((chairs_Spread.ch n q : Nat) : Int)) (fun _ k => i - (intOf k).toNat)
  case atStart => exact ⟨0, Nat.zero_le _, rfl, rfl⟩
  case round =>
    obtain ⟨q, hq, rfl, rfl⟩ := hrel
    by_cases hlt : q < i
    · have d1 : decide ((q : Int) < (i : Int)) = true := decide_eq_true (by omega)
      obtain ⟨c, hc⟩ : ∃ c, chairs_Spread.ch n q = c := ⟨_, rfl⟩
      have hb := MSpread.ch_small n hn q (by omega)
      have hs : chairs_Spread.ch n (q + 1) = c * (n - q) / (q + 1) := by rw [← hc]; rfl
      rw [hc] at hb ⊢
      obtain ⟨m, hm⟩ : ∃ m : Int, (n : Int) - (q : Int) = m := ⟨_, rfl⟩
      have hm0 : 0 ≤ m := by omega
      have hm1 : m ≤ 9 := by omega
      have hcm : (c : Int) * m = ((c * (n - q) : Nat) : Int) := by rw [← hm, Int.natCast_mul]; congr 1; omega
      obtain ⟨p, hp⟩ : ∃ p : Int, (c : Int) * m = p := ⟨_, rfl⟩
      have hp0 : 0 ≤ p := by rw [← hp]; exact Int.mul_nonneg (by omega) hm0
      have hp1 : p ≤ 1134 := by
        have h1 := Int.mul_le_mul (show (c : Int) ≤ 126 by omega) hm1 hm0 (by omega)
        omega
      have hpd : ((c * (n - q) / (q + 1) : Nat) : Int) = p / ((q : Int) + 1) := by rw [← hp, hcm]; rfl
      have HD : Hid (((chairs_Spread.ch n (q + 1) : Nat) : Int) = p / ((q : Int) + 1)) := Lib.hid (by rw [hs]; exact hpd)
      have hd0 : 0 ≤ p / ((q : Int) + 1) := Int.ediv_nonneg hp0 (by omega)
      have hd1 : p / ((q : Int) + 1) ≤ 1134 := Int.le_trans (Int.ediv_le_self _ hp0) hp1
      have hne : ((q : Int) + 1 == 0) = false := beq_eq_false_iff_ne.2 (by omega)
      have hne2 : ¬ ((q : Int) + 1 = 0) := by omega
      clear hc hs hcm hpd
      go_wp2
      go_round
      case rel => exact ⟨q + 1, by omega, by go_num, by rw [HD.out]⟩
      case measure => simp [intOf]; omega
    · obtain rfl : q = i := by omega
      have d1 : decide ((q : Int) < (q : Int)) = false := decide_eq_false (by omega)
      go_wp2
      go_ret
      exact ⟨rfl, rfl⟩
end Go.Proofs.Ytfopeenjpdaacaa.PC
