/- The number of changes of an amount is the sum, over the number of greatest coins, of the numbers of changes of what is left with the other coins, and it never decreases when the amount grows by 1, for every list of at most 40 coins. -/
import Derived.Test.YtgbalmjnjpfopaaPCx9
import Derived.Test.YtgbalmjnjpfopaaLWays
namespace Go.Proofs.Ytgbalmjnjpfopaa.L
open Go.RowKit Go.Proofs.Ytgbalmjnjpfopaa.PC Go.Proofs.YtgbalmjnjpfopaaW.PrintWords Go.Proofs.YtgbalmjnjpfopaaW.PrintLast

theorem rd_take (l : List Int) (m : Nat) (i : Int) (h0 : 0 ≤ i) (h : i < m) : rd (l.take m) i = rd l i := by
  unfold rd
  rw [List.getD_eq_getElem?_getD, List.getD_eq_getElem?_getD, List.getElem?_take, if_pos (by omega)]
theorem sys_take {l : List Int} (h : Sys l) (m : Nat) (h1 : 1 ≤ m) (hm : m ≤ l.length) : Sys (l.take m) := by
  obtain ⟨a, b, c, d⟩ := h
  refine ⟨by simp; omega, by simp; omega, by rw [rd_take l m 0 (by omega) (by omega)]; exact c, fun i i0 i1 => ?_⟩
  have hl : (l.take m).length = m := by simp; omega
  have hi : i < (m : Int) := by omega
  have := d i i0 (by omega)
  refine ⟨by rw [rd_take l m i i0 hi]; exact this.1, fun g => ?_⟩
  rw [rd_take l m i i0 hi, rd_take l m (i - 1) (by omega) (by omega)]
  exact this.2 g
theorem err_ok {l : List Int} {a m : Int} (h : Sys l) (h0 : 0 ≤ a) (h1 : a ≤ m) : err l a m = 0 := by
  unfold err; rw [if_pos h, if_neg (by omega), if_neg (by omega)]
theorem ways_small {l : List Int} {a : Int} (h : Sys l) (h0 : 0 ≤ a) (h1 : a ≤ 100000) (hw : (W l.reverse a : Int) ≤ 1152921504606846976) : waysV l a = ((W l.reverse a : Int), 0) := by
  unfold waysV waysEnd; rw [if_pos (err_ok h h0 h1), if_neg (by omega)]
theorem ways_big {l : List Int} {a : Int} (h : Sys l) (h0 : 0 ≤ a) (h1 : a ≤ 100000) (hw : (W l.reverse a : Int) > 1152921504606846976) : waysV l a = (0, 8) := by
  unfold waysV waysEnd; rw [if_pos (err_ok h h0 h1), if_pos hw]

theorem left_loop (l : List Int) (hs : Sys l) (hlen : 2 ≤ l.length) (n : Int) (hn : n ≤ 1152921504606846976) (d : Nat) : ∀ (sum left : Int), 0 ≤ sum → left ≤ 5000 → left + 1 ≤ d → -5000 ≤ left →
    sum + (if 0 ≤ left then (W l.reverse left : Int) else 0) = n → Ev (fun k => pomadelaw05_CoinsLeft.l0 k l n sum left) true := by
  have hm : 1 ≤ l.length - 1 := by omega
  have hst := sys_take hs (l.length - 1) hm (by omega)
  have hi : ((l.length : Int) - 1).toNat = l.length - 1 := by omega
  have hc : l.reverse = rd l ((l.length : Int) - 1) :: (l.take (l.length - 1)).reverse := by
    have h1 : l.take (l.length - 1) ++ [rd l ((l.length : Int) - 1)] = l := by
      have h2 := List.take_succ_eq_append_getElem (l := l) (i := l.length - 1) (by omega)
      rw [show l.length - 1 + 1 = l.length by omega, List.take_of_length_le (Nat.le_refl _)] at h2
      rw [show rd l ((l.length : Int) - 1) = l[l.length - 1] from by unfold rd; rw [hi, List.getD_eq_getElem?_getD, List.getElem?_eq_getElem (by omega)]; rfl]
      exact h2.symm
    conv => lhs; rw [← h1]
    simp
  have hcr := hs.range (rd l ((l.length : Int) - 1)) (by unfold rd; rw [hi, List.getD_eq_getElem?_getD, List.getElem?_eq_getElem (by omega)]; exact List.getElem_mem _)
  have hwl : wrap64 ((l.length : Int) - 1) = (l.length : Int) - 1 := w64 (by have := hs.2.1; omega) (by have := hs.2.1; omega)
  obtain ⟨t, ht, htp⟩ := hst.rev
  induction d with
  | zero =>
    intro sum left h0 h1 h2 h3 he
    rw [if_neg (by omega)] at he
    refine Ev.step (f := fun k => (pomadelaw05_alive.f k).bind fun t311 => some t311) (fun k => ?_) (Ev.bind alive_ev (Ev.now true))
    simp only [pomadelaw05_CoinsLeft.l0]
    rw [if_neg (by omega), if_pos (by omega)]
  | succ d ih =>
    intro sum left h0 h1 h2 h3 he
    by_cases c : 0 ≤ left
    · rw [if_pos c, hc, W_cons _ _ left hcr.1 c] at he
      have hp : 1 ≤ W (l.take (l.length - 1)).reverse left := by rw [ht]; exact W_pos t htp left c
      have hge : (0 : Int) ≤ ((if rd l ((l.length : Int) - 1) ≤ left then W (rd l ((l.length : Int) - 1) :: (l.take (l.length - 1)).reverse) (left - rd l ((l.length : Int) - 1)) else 0 : Nat) : Int) := Int.natCast_nonneg _
      rw [Int.natCast_add] at he
      obtain ⟨x, hx⟩ : ∃ x, W (l.take (l.length - 1)).reverse left = x := ⟨_, rfl⟩
      rw [hx] at hp he
      have hsm := ways_small hst c (show left ≤ 100000 by omega) (by rw [hx]; omega)
      rw [hx] at hsm
      have hih := ih (sum + x) (left - rd l ((l.length : Int) - 1)) (by omega) (by omega) (by omega) (by omega) (by
        rw [hc]
        by_cases c2 : rd l ((l.length : Int) - 1) ≤ left
        · rw [if_pos c2] at he; rw [if_pos (by omega)]; omega
        · rw [if_neg c2] at he; rw [if_neg (by omega)]; omega)
      refine Ev.step (f := fun k => (coins_Ways.f k (l.take (l.length - 1)) left).bind fun bt308 => (if bt308.2 = 0 then (if bt308.1 < 1 then (some false) else (if bt308.1 > n then (some false) else (pomadelaw05_CoinsLeft.l0 k l n (wrap64 (sum + bt308.1)) (left - rd l ((l.length : Int) - 1))))) else (some false))) (fun k => ?_) ?_
      · simp only [pomadelaw05_CoinsLeft.l0]
        rw [if_pos (by omega), hwl, if_pos (by omega), if_pos (by omega), hi]
        simp only [if_pos (show (l.length : Int) - 1 < (l.length : Int) by omega)]
        rw [w64 (x := left - rd l ((l.length : Int) - 1)) (by omega) (by omega)]
      · refine Ev.bind (waysV_ev _ _) ?_
        rw [hsm]
        simp only [if_true]
        refine Ev.congr (fun k => ?_) hih
        rw [if_neg (by omega), if_neg (by omega), w64 (by omega) (by omega)]
    · rw [if_neg c] at he
      refine Ev.step (f := fun k => (pomadelaw05_alive.f k).bind fun t311 => some t311) (fun k => ?_) (Ev.bind alive_ev (Ev.now true))
      simp only [pomadelaw05_CoinsLeft.l0]
      rw [if_neg (by omega), if_pos (by omega)]

theorem left_j0_true (l : List Int) (a : Int) : Ev (fun k => pomadelaw05_CoinsLeft.j0 k l a true) true :=
  Ev.step (f := fun k => (pomadelaw05_alive.f k).bind fun t298 => some t298) (fun k => by simp only [pomadelaw05_CoinsLeft.j0]; rw [if_pos trivial]) (Ev.bind alive_ev (Ev.now true))

theorem left_j1 (l : List Int) (hs : Sys l) (a : Int) (a0 : 0 ≤ a) (a1 : a ≤ 5000) (hsm : (W l.reverse a : Int) ≤ 1152921504606846976) : Ev (fun k => pomadelaw05_CoinsLeft.j1 k l a (W l.reverse a : Int) false) true := by
  have hlen := hs.1
  have hlen2 := hs.2.1
  by_cases c : l.length = 1
  · have h1 : W l.reverse a = 1 := by
      obtain ⟨t, ht, _⟩ := hs.rev
      have hl : l.reverse.length = 1 := by simp [c]
      rw [ht] at hl
      obtain rfl : t = [] := by cases t <;> simp_all
      rw [ht]; exact W_one a a0
    refine Ev.step (f := fun k => pomadelaw05_CoinsLeft.j2 k l a (W l.reverse a : Int) true) (fun k => by simp only [pomadelaw05_CoinsLeft.j1]; rw [if_neg (by simp), if_pos (by omega)]) ?_
    refine Ev.step (f := fun k => (pomadelaw05_alive.f k).bind fun t298 => some t298) (fun k => ?_) (Ev.bind alive_ev (Ev.now true))
    simp only [pomadelaw05_CoinsLeft.j2]
    rw [if_pos trivial, if_neg (by omega), if_pos (by omega)]
  · have hwl : wrap64 ((l.length : Int) - 1) = (l.length : Int) - 1 := w64 (by omega) (by omega)
    have hi : ((l.length : Int) - 1).toNat = l.length - 1 := by omega
    have hcr := hs.range (rd l ((l.length : Int) - 1)) (by unfold rd; rw [hi, List.getD_eq_getElem?_getD, List.getElem?_eq_getElem (by omega)]; exact List.getElem_mem _)
    refine Ev.step (f := fun k => pomadelaw05_CoinsLeft.j2 k l a (W l.reverse a : Int) (decide ((wrap64 (Int.tdiv a (rd l ((l.length : Int) - 1)))) > 300))) (fun k => ?_) ?_
    · simp only [pomadelaw05_CoinsLeft.j1]
      rw [if_neg (by simp), if_neg (by omega), hwl, if_pos (by omega), if_pos (by omega), if_neg (by omega)]
    · generalize decide ((wrap64 (Int.tdiv a (rd l ((l.length : Int) - 1)))) > 300) = b
      cases b with
      | true =>
        refine Ev.step (f := fun k => (pomadelaw05_alive.f k).bind fun t298 => some t298) (fun k => ?_) (Ev.bind alive_ev (Ev.now true))
        simp only [pomadelaw05_CoinsLeft.j2]
        rw [if_pos trivial, if_pos (by omega)]
      | false =>
        refine Ev.step (f := fun k => pomadelaw05_CoinsLeft.l0 k l (W l.reverse a : Int) 0 a) (fun k => ?_) (left_loop l hs (by omega) _ hsm 5001 0 a (by omega) a1 (by omega) (by omega) (by rw [if_pos a0]; omega))
        simp only [pomadelaw05_CoinsLeft.j2]
        rw [if_neg (by simp)]

theorem CoinsLeft_pure : pomadelaw05_CoinsLeft.Pure := by
  intro l s
  intros
  rename_i hw
  refine Ev.rounds ?_
  have hs0 : 0 ≤ s ∧ s ≤ 65535 := by
    have e0 : IntKind.u16.min = 0 := by decide +kernel
    have e1 : IntKind.u16.max = 65535 := by decide +kernel
    simp [Lit.wf, e0, e1] at hw
    omega
  by_cases c : (l.length : Int) > 40
  · exact Ev.congr (fun k => by unfold pomadelaw05_CoinsLeft.f; rw [if_pos c]) (left_j0_true l s)
  refine Ev.congr (fun k => by unfold pomadelaw05_CoinsLeft.f; rw [if_neg c]) ?_
  by_cases hs : Sys l
  · refine Ev.bind ((issys_ev l).1 hs) ?_
    have hm : Int.tmod s 5001 = s % 5001 := Int.tmod_eq_emod_of_nonneg hs0.1
    obtain ⟨a, ha⟩ : ∃ a, s % 5001 = a := ⟨_, rfl⟩
    have a0 : 0 ≤ a := by omega
    have a1 : a ≤ 5000 := by omega
    have e1 : wrap64 (Int.tmod s 5001) = a := by rw [hm, ha]; exact w64 (by omega) (by omega)
    have e2 : wrap64 (a + 1) = a + 1 := w64 (by omega) (by omega)
    obtain ⟨t, ht, htp⟩ := hs.rev
    have hmono := W_mono t htp a a0
    have hpos := W_pos t htp a a0
    rw [← ht] at hmono hpos
    refine Ev.step (f := fun k => (coins_Ways.f k l a).bind fun bt299 => ((coins_Ways.f k l (a + 1)).bind fun bt301 => (if bt299.2 = 0 then (if bt299.1 < 1 then (pomadelaw05_CoinsLeft.j1 k l a bt299.1 true) else (if bt301.2 = 0 then (if bt301.1 < bt299.1 then (pomadelaw05_CoinsLeft.j1 k l a bt299.1 true) else (pomadelaw05_CoinsLeft.j1 k l a bt299.1 false)) else (pomadelaw05_CoinsLeft.j1 k l a bt299.1 (bt301.2 != 8)))) else (if bt299.2 = 8 then (if bt301.2 = 8 then (if (wrap64 (bt299.1 + bt301.1)) = 0 then ((pomadelaw05_alive.f k).bind fun t303 => (some t303)) else (some false)) else (some false)) else (some false))))) (fun k => ?_) ?_
    · simp only [pomadelaw05_CoinsLeft.j0, e1, e2]
      rw [if_neg (by simp)]
    · refine Ev.bind (waysV_ev l a) (Ev.bind (waysV_ev l (a + 1)) ?_)
      by_cases b1 : (W l.reverse a : Int) > 1152921504606846976
      · rw [ways_big hs a0 (by omega) b1, ways_big hs (by omega) (by omega) (by omega)]
        refine Ev.congr (fun k => ?_) (Ev.bind alive_ev (Ev.now true))
        simp only
        rw [if_neg (by decide), if_pos trivial, if_pos trivial, if_pos (show wrap64 ((0 : Int) + 0) = 0 from w64 (by omega) (by omega))]
      · rw [ways_small hs a0 (by omega) (by omega)]
        have hj := left_j1 l hs a a0 a1 (by omega)
        by_cases b2 : (W l.reverse (a + 1) : Int) > 1152921504606846976
        · rw [ways_big hs (by omega) (by omega) b2]
          refine Ev.congr (fun k => ?_) hj
          rw [if_pos rfl, if_neg (by omega), if_neg (by decide)]
          rfl
        · rw [ways_small hs (by omega) (by omega) (by omega)]
          refine Ev.congr (fun k => ?_) hj
          rw [if_pos rfl, if_neg (by omega), if_pos rfl, if_neg (by omega)]
  · exact Ev.bind ((issys_ev l).2 hs) (left_j0_true l s)
end Go.Proofs.Ytgbalmjnjpfopaa.L
namespace Go.Proofs.Ytgbalmjnjpfopaa.Pure
theorem CoinsLeft : Go.Proofs.Ytgbalmjnjpfopaa.PC.pomadelaw05_CoinsLeft.Pure := Go.Proofs.Ytgbalmjnjpfopaa.L.CoinsLeft_pure
end Go.Proofs.Ytgbalmjnjpfopaa.Pure
