/- Chairs: ChairsPollak. -/
import Derived.Test.YtfopeenjpdaacaaLTurn
import Derived.Test.YtfopeenjpdaacaaPCf7
namespace Go.Proofs.Ytfopeenjpdaacaa.L
open Go.RowKit Go.Proofs.Ytfopeenjpdaacaa.PC Go.Proofs.YtfopeenjpdaacaaW.PrintWords Go.Proofs.YtfopeenjpdaacaaW.PrintLast
theorem u8_wf {a : Int} (h : (Lit.int .u8 a).wf = true) : 0 ≤ a ∧ a ≤ 255 := by
  simp [Lit.wf, IntKind.bits, IntKind.signed, IntKind.min, IntKind.max] at h
  omega
theorem pow_small : ∀ X : Nat, X < 18 → ∀ i : Nat, i < 16 → X ^ i ≤ 2862423051509815793 := by decide +kernel
theorem want_small : ∀ m : Nat, m < 17 → ∀ n : Nat, n < m + 1 → ∀ i : Nat, i < n → (m + 1 - n) * (m + 1) ^ i ≤ 2862423051509815793 := by decide +kernel
theorem power_loop (X K : Nat) (hX : X < 18) (hK : K < 16) (d : Nat) : ∀ q : Nat, q + d = K → Ev (fun k => chairs_power.l0 k (X : Int) ((X ^ q : Nat) : Int) (K : Int) (q : Int)) ((X ^ K : Nat) : Int) := by
  induction d with
  | zero =>
    intro q hq
    obtain rfl : q = K := by omega
    refine Ev.step (f := fun _ => some ((X ^ q : Nat) : Int)) (fun k => ?_) (Ev.now _)
    simp only [chairs_power.l0]
    rw [if_neg (by omega)]
  | succ d ih =>
    intro q hq
    have hs := pow_small X hX (q + 1) (by omega)
    refine Ev.step (fun k => ?_) (ih (q + 1) (by omega))
    simp only [chairs_power.l0]
    rw [if_pos (by omega), w64 (x := (q : Int) + 1) (by omega) (by omega)]
    have e : ((X ^ q : Nat) : Int) * (X : Int) = ((X ^ (q + 1) : Nat) : Int) := by rw [Nat.pow_succ, Int.natCast_mul]
    rw [e, w64 (by omega) (by omega)]
    rfl
theorem count_ev (m n : Nat) (hm : m < 17) (hn : n < m + 1) (h1 : 1 ≤ n) : Ev (fun k => chairs_Count.f k (m : Int) (n : Int)) ((((m + 1 - n) * (m + 1) ^ (n - 1) : Nat) : Int), 0) := by
  have hw := want_small m hm n hn (n - 1) (by omega)
  refine Ev.congr (fun k => by unfold chairs_Count.f; rw [if_neg (by omega), if_neg (by omega), if_neg (by omega), decide_eq_false (by omega)]) ?_
  refine Ev.step (f := fun k => (chairs_power.f k ((m + 1 : Nat) : Int) ((n - 1 : Nat) : Int)).bind fun t101 => (some (wrap64 (((m + 1 - n : Nat) : Int) * t101), 0))) (fun k => ?_) ?_
  · simp only [chairs_Count.j0]
    rw [if_neg (by simp), if_neg (by omega), w64 (x := (m : Int) + 1) (by omega) (by omega), w64 (x := (n : Int) - 1) (by omega) (by omega), w64 (x := (m : Int) + 1 - (n : Int)) (by omega) (by omega),
      show (m : Int) + 1 = ((m + 1 : Nat) : Int) by omega, show (n : Int) - 1 = ((n - 1 : Nat) : Int) by omega, show ((m + 1 : Nat) : Int) - (n : Int) = ((m + 1 - n : Nat) : Int) by omega]
  refine Ev.bind (power_loop (m + 1) (n - 1) (by omega) (by omega) (n - 1) 0 (by omega)) ?_
  refine Ev.congr (fun k => ?_) (Ev.now _)
  rw [← Int.natCast_mul, w64 (by omega) (by omega)]
theorem want_loop (l : List Int) (m n : Nat) (hm : m < 17) (hn : n < m + 1) (h1 : 1 ≤ n) (r : Bool) (hr : Ev (fun k => pomadelaw03_ChairsPollak.j1 k l false) r) (d : Nat) : ∀ q : Nat, q + d = n - 1 →
    Ev (fun k => pomadelaw03_ChairsPollak.l0 k l (m : Int) (n : Int) (((m + 1 - n) * (m + 1) ^ q : Nat) : Int) ((q : Int) + 1)) r := by
  induction d with
  | zero =>
    intro q hq
    refine Ev.step (f := fun k => (chairs_Count.f k (m : Int) (n : Int)).bind fun bt471 => (if bt471.2 = 0 then (pomadelaw03_ChairsPollak.j1 k l (bt471.1 != (((m + 1 - n) * (m + 1) ^ q : Nat) : Int))) else (pomadelaw03_ChairsPollak.j1 k l true))) (fun k => ?_) ?_
    · simp only [pomadelaw03_ChairsPollak.l0]
      rw [if_neg (by omega)]
    refine Ev.bind (count_ev m n hm hn h1) ?_
    simp only [if_true]
    rw [show n - 1 = q by omega, bne_self_eq_false]
    exact hr
  | succ d ih =>
    intro q hq
    have hw := want_small m hm n hn (q + 1) (by omega)
    refine Ev.step (fun k => ?_) (ih (q + 1) (by omega))
    simp only [pomadelaw03_ChairsPollak.l0]
    rw [if_pos (by omega), w64 (x := (m : Int) + 1) (by omega) (by omega), w64 (x := (q : Int) + 1 + 1) (by omega) (by omega)]
    have e : (((m + 1 - n) * (m + 1) ^ q : Nat) : Int) * ((m : Int) + 1) = (((m + 1 - n) * (m + 1) ^ (q + 1) : Nat) : Int) := by
      rw [Nat.pow_succ, ← Nat.mul_assoc, Int.natCast_mul (_ * _) (m + 1)]; rfl
    rw [e, w64 (by omega) (by omega)]
    rfl
theorem turns_loop (l : List Int) (h : Row (l.length : Int) l) (t : Nat) (hu : ∀ i : Nat, i ≤ l.length → (TGood (l.length : Int) l (i : Int) ↔ i = t)) (d : Nat) : ∀ q : Nat, q + d = l.length + 1 →
    Ev (fun k => pomadelaw03_ChairsPollak.l1 k l (t : Int) (q : Int)) true := by
  have h1 := h.m1; have h2 := h.m30
  induction d with
  | zero =>
    intro q hq
    refine Ev.step (f := fun _ => some true) (fun k => ?_) (Ev.now _)
    simp only [pomadelaw03_ChairsPollak.l1]
    rw [if_neg (by omega)]; rfl
  | succ d ih =>
    intro q hq
    have hi := ih (q + 1) (by omega)
    have e : ((q : Int) + 1) = ((q + 1 : Nat) : Int) := by omega
    refine Ev.step (f := fun k => (pomaderef03_Turned.f k (l.length : Int) l (q : Int)).bind fun t478 => ((chairs_Good.f k (l.length : Int) t478).bind fun bt481 => (if bt481.2 = 0 then (if (bt481.1 != ((q : Int) == (t : Int))) = true then (some false) else (pomadelaw03_ChairsPollak.l1 k l (t : Int) ((q + 1 : Nat) : Int))) else (if (false != ((q : Int) == (t : Int))) = true then (some false) else (pomadelaw03_ChairsPollak.l1 k l (t : Int) ((q + 1 : Nat) : Int)))))) (fun k => ?_) ?_
    · simp only [pomadelaw03_ChairsPollak.l1]
      rw [if_pos (by omega), w64 (by omega) (by omega), e]
    refine Ev.bind (turned_ev _ _ l h ⟨by omega, by omega⟩).2 (Ev.bind (Good_ev _ _) ?_)
    have hq := hu q (by omega)
    unfold TGood at hq
    generalize GoodV (l.length : Int) (turnL (l.length : Int) (q : Int) l) = G at hq ⊢
    obtain ⟨g1, g2⟩ := G
    by_cases c : q = t
    · have hg := hq.2 c
      injection hg with a b
      subst a; subst b
      have hb : ((q : Int) == (t : Int)) = true := by simp [c]
      rw [hb]
      exact Ev.congr (fun k => by simp) hi
    · have hg : ¬ (g1, g2) = (true, 0) := fun hg => c (hq.1 hg)
      have hb : ((q : Int) == (t : Int)) = false := by simp; omega
      rw [hb]
      by_cases c2 : g2 = 0
      · subst c2
        have : g1 = false := by cases g1 with
          | false => rfl
          | true => exact absurd rfl hg
        subst this
        exact Ev.congr (fun k => by simp) hi
      · exact Ev.congr (fun k => by simp [c2]) hi
theorem ChairsPollak_pure : pomadelaw03_ChairsPollak.Pure := by
  intro l a1 a2 _ _ _ w1 w2
  have b1 : 0 ≤ a1 ∧ a1 ≤ 255 := u8_wf w1
  have b2 : 0 ≤ a2 ∧ a2 ≤ 255 := u8_wf w2
  refine Ev.rounds ?_
  by_cases c : (l.length : Int) > 60
  · exact Ev.congr (fun k => by unfold pomadelaw03_ChairsPollak.f; rw [if_pos c]; rfl) (Ev.now true)
  obtain ⟨m, hm⟩ : ∃ m : Nat, 1 + Int.tmod a1 16 = (m : Int) := ⟨(1 + Int.tmod a1 16).toNat, by rw [Int.tmod_eq_emod_of_nonneg b1.1]; omega⟩
  have hmb : 1 ≤ m ∧ m < 17 := by rw [Int.tmod_eq_emod_of_nonneg b1.1] at hm; omega
  obtain ⟨n, hn⟩ : ∃ n : Nat, 1 + Int.tmod a2 (m : Int) = (n : Int) := ⟨(1 + Int.tmod a2 (m : Int)).toNat, by
    rw [Int.tmod_eq_emod_of_nonneg b2.1]
    have := Int.emod_nonneg a2 (show (m : Int) ≠ 0 by omega)
    omega⟩
  have hnb : 1 ≤ n ∧ n < m + 1 := by
    rw [Int.tmod_eq_emod_of_nonneg b2.1] at hn
    have h1 := Int.emod_nonneg a2 (show (m : Int) ≠ 0 by omega)
    have h2 := Int.emod_lt_of_pos a2 (show 0 < (m : Int) by omega)
    omega
  have e1 : wrap64 (1 + (wrap64 (Int.tmod a1 16))) = (m : Int) := by
    rw [w64 (x := Int.tmod a1 16) (by rw [Int.tmod_eq_emod_of_nonneg b1.1]; omega) (by rw [Int.tmod_eq_emod_of_nonneg b1.1]; omega), hm, w64 (by omega) (by omega)]
  have e2 : wrap64 (1 + (Int.tmod (wrap64 a2) (m : Int))) = (n : Int) := by rw [w64 (x := a2) (by omega) (by omega), hn, w64 (by omega) (by omega)]
  refine Ev.congr (fun k => by unfold pomadelaw03_ChairsPollak.f; rw [if_neg c, e1, if_neg (by omega), e2, w64 (x := (m : Int) + 1) (by omega) (by omega), w64 (x := (m : Int) + 1 - (n : Int)) (by omega) (by omega)]) ?_
  have hrest : Ev (fun k => pomadelaw03_ChairsPollak.j1 k l false) true := by
    refine Ev.step (f := fun k => (pomaderef03_Whole.f k l).bind fun t473 => (if t473 = 0 then ((chairs_Turn.f k (l.length : Int) l).bind fun bt475 => (if bt475.2 = 0 then (if bt475.1 < 0 then (pomadelaw03_ChairsPollak.j2 k l bt475.1 true) else (pomadelaw03_ChairsPollak.j2 k l bt475.1 (decide (bt475.1 > (l.length : Int))))) else (pomadelaw03_ChairsPollak.j2 k l bt475.1 true))) else ((pomadelaw03_alive.f).bind fun t474 => (some t474)))) (fun k => ?_) ?_
    · simp only [pomadelaw03_ChairsPollak.j1]
      rw [if_neg (by simp)]
    refine Ev.bind (whole_ev l (by omega)) ?_
    by_cases hw : (if l.length = 0 ∨ l.length > 30 then 3 else rowV (l.length : Int) l) = 0
    · rw [hw]
      have hrow : Row (l.length : Int) l := by
        by_cases c2 : l.length = 0 ∨ l.length > 30
        · rw [if_pos c2] at hw; cases hw
        · rw [if_neg c2] at hw; exact (row_iff _ _).1 hw
      have h1 := hrow.m1; have h2 := hrow.m30
      obtain ⟨t, ht, hu⟩ := one_good l hrow
      simp only [if_true]
      have hT : Ev (fun k => chairs_Turn.f k (l.length : Int) l) ((t : Int), 0) := by
        refine Ev.bind (Ev.congr (fun _ => wished_ev _ l) (Ev.now _)) ?_
        rw [(row_iff _ l).2 hrow]
        refine Ev.congr (fun k => by rw [if_pos rfl, w64 (by omega) (by omega)]) (turn_first _ l hrow (t : Int) (by omega) ((hu t ht).2 rfl) t 0 (by omega) (by omega) ?_)
        intro i h0 hi hg
        obtain ⟨j, rfl⟩ : ∃ j : Nat, i = (j : Int) := ⟨i.toNat, by omega⟩
        have := (hu j (by omega)).1 hg
        omega
      refine Ev.bind hT ?_
      simp only [if_true]
      refine Ev.congr (fun k => by rw [if_neg (by omega), decide_eq_false (by omega)]) ?_
      refine Ev.step (fun k => ?_) (turns_loop l hrow t hu (l.length + 1) 0 (by omega))
      simp only [pomadelaw03_ChairsPollak.j2]
      rw [if_neg (by simp)]
      rfl
    · exact Ev.congr (fun k => by rw [if_neg hw]; rfl) (Ev.now true)
  have := want_loop l m n hmb.2 hnb.2 hnb.1 true hrest (n - 1) 0 (by omega)
  refine Ev.congr (fun k => ?_) this
  have e3 : (m : Int) + 1 - (n : Int) = (((m + 1 - n) * (m + 1) ^ 0 : Nat) : Int) := by rw [Nat.pow_zero, Nat.mul_one]; omega
  rw [e3]
  rfl
end Go.Proofs.Ytfopeenjpdaacaa.L
namespace Go.Proofs.Ytfopeenjpdaacaa.Pure
theorem ChairsPollak : Go.Proofs.Ytfopeenjpdaacaa.PC.pomadelaw03_ChairsPollak.Pure := Go.Proofs.Ytfopeenjpdaacaa.L.ChairsPollak_pure
end Go.Proofs.Ytfopeenjpdaacaa.Pure
