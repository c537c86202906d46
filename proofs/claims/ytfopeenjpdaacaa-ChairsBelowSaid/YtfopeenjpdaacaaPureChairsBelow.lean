/- Chairs: ChairsBelow. -/
import Derived.Test.YtfopeenjpdaacaaLPark
import Derived.Test.YtfopeenjpdaacaaPCf8
namespace Go.Proofs.Ytfopeenjpdaacaa.L
open Go.RowKit Go.Proofs.Ytfopeenjpdaacaa.PC Go.Proofs.YtfopeenjpdaacaaW.PrintWords Go.Proofs.YtfopeenjpdaacaaW.PrintLast
/-- is it so for each k up to q? -/
def wantL (l : List Int) : Nat → Bool
  | 0 => true
  | q + 1 => wantL l q && decide (q + 1 ≤ below l ((q + 1 : Nat) : Int))
theorem wantL_iff (l : List Int) (n : Nat) : wantL l n = true ↔ ∀ k : Nat, 1 ≤ k → k ≤ n → k ≤ below l (k : Int) := by
  induction n with
  | zero => exact ⟨fun _ k h1 h2 => by omega, fun _ => rfl⟩
  | succ n ih =>
    simp only [wantL, Bool.and_eq_true, decide_eq_true_eq, ih]
    constructor
    · rintro ⟨h1, h2⟩ k h3 h4
      by_cases e : k = n + 1
      · rw [e]; exact h2
      · exact h1 k h3 (by omega)
    · exact fun h => ⟨fun k h1 h2 => h k h1 (by omega), h (n + 1) (by omega) (by omega)⟩
theorem below_le (l : List Int) (k : Int) : below l k ≤ l.length := List.countP_le_length
theorem below_count (l : List Int) (hl : l.length ≤ 1000) (w : Bool) (x : Int) (hx : 0 ≤ x ∧ x ≤ 1000) (r : Bool) (d : Nat) : ∀ (q : Nat), q + d = l.length →
    Ev (fun k => pomadelaw03_ChairsBelow.l0 k l (w && decide (x ≤ (below l x : Int))) (x + 1)) r → Ev (fun k => pomadelaw03_ChairsBelow.l1 k l w x ((below (l.take q) x : Nat) : Int) (q : Int)) r := by
  induction d with
  | zero =>
    intro q hq h
    rw [List.take_of_length_le (by omega)]
    refine Ev.step (fun k => ?_) h
    simp only [pomadelaw03_ChairsBelow.l1]
    rw [if_neg (by omega), w64 (by omega) (by omega)]
    cases w <;> simp
  | succ d ih =>
    intro q hq h
    have hb := below_le (l.take q) x
    have hlt : (l.take q).length ≤ 1000 := by rw [List.length_take]; omega
    have hi := ih (q + 1) (by omega) h
    have e1 : below (l.take (q + 1)) x = below (l.take q) x + if rd l (q : Int) < x then 1 else 0 := by
      have e2 : l.take (q + 1) = l.take q ++ [rd l (q : Int)] := by
        rw [List.take_succ_eq_append_getElem (by omega)]; simp [rd, List.getD_eq_getElem?_getD, show q < l.length by omega]
      unfold below
      rw [e2, List.countP_append]
      by_cases c : rd l (q : Int) < x <;> simp [c]
    rw [e1] at hi
    refine Ev.step (fun k => ?_) hi
    simp only [pomadelaw03_ChairsBelow.l1]
    rw [if_pos (by omega), if_pos (by omega)]
    by_cases c : rd l (q : Int) < x
    · rw [if_pos c, if_pos c, w64 (by omega) (by omega), w64 (by omega) (by omega)]
      rfl
    · rw [if_neg c, if_neg c, w64 (by omega) (by omega)]
      rfl
theorem below_all (l : List Int) (h : Row (l.length : Int) l) (d : Nat) : ∀ q : Nat, q + d = l.length → Ev (fun k => pomadelaw03_ChairsBelow.l0 k l (wantL l q) ((q : Int) + 1)) true := by
  have hl := h.m30
  induction d with
  | zero =>
    intro q hq
    obtain rfl : q = l.length := by omega
    refine Ev.step (f := fun k => (chairs_Good.f k (l.length : Int) l).bind fun bt485 => (if bt485.2 = 0 then (if (bt485.1 == wantL l l.length) = true then ((pomadelaw03_alive.f).bind fun t487 => (some t487)) else (some false)) else (some false))) (fun k => ?_) ?_
    · simp only [pomadelaw03_ChairsBelow.l0]
      rw [if_neg (by omega)]
    refine Ev.bind (Good_ev _ l) ?_
    have hz := (row_iff _ l).2 h
    have hg : (GoodV (l.length : Int) l) = ((sitV (l.length : Int) l).2, 0) := by unfold GoodV; rw [if_pos hz]
    rw [hg]
    simp only [if_true]
    have e : (sitV (l.length : Int) l).2 = wantL l l.length := by
      rw [Bool.eq_iff_iff, good_below l h, wantL_iff]
    rw [e]
    exact Ev.congr (fun k => by simp [alive_ev]) (Ev.now true)
  | succ d ih =>
    intro q hq
    have hi := ih (q + 1) (by omega)
    have h2 := below_count l (by omega) (wantL l q) ((q : Int) + 1) (by omega) true l.length 0 (by omega) (by
      refine Ev.congr (fun k => ?_) hi
      have e1 : (((q + 1 : Nat) : Int) + 1) = (q : Int) + 1 + 1 := by omega
      rw [e1]
      congr 1
      simp only [wantL]
      congr 1
      rw [show ((q + 1 : Nat) : Int) = (q : Int) + 1 by omega]
      by_cases c : q + 1 ≤ below l ((q : Int) + 1)
      · rw [decide_eq_true c, decide_eq_true (by omega)]
      · rw [decide_eq_false c, decide_eq_false (by omega)])
    refine Ev.step (fun k => ?_) h2
    simp only [pomadelaw03_ChairsBelow.l0]
    rw [if_pos (by omega)]
    rfl
theorem ChairsBelow_pure : pomadelaw03_ChairsBelow.Pure := by
  intro l _ _ _
  refine Ev.rounds ?_
  by_cases c : (l.length : Int) > 60
  · refine Ev.congr (fun k => by unfold pomadelaw03_ChairsBelow.f; rw [if_pos c]) ?_
    refine Ev.step (f := fun _ => some true) (fun k => ?_) (Ev.now _)
    simp only [pomadelaw03_ChairsBelow.j0]; rfl
  refine Ev.congr (fun k => by unfold pomadelaw03_ChairsBelow.f; rw [if_neg c]) ?_
  refine Ev.bind (whole_ev l (by omega)) ?_
  by_cases hw : (if l.length = 0 ∨ l.length > 30 then 3 else rowV (l.length : Int) l) = 0
  · rw [hw]
    have hrow : Row (l.length : Int) l := by
      by_cases c2 : l.length = 0 ∨ l.length > 30
      · rw [if_pos c2] at hw; cases hw
      · rw [if_neg c2] at hw; exact (row_iff _ _).1 hw
    refine Ev.step (fun k => ?_) (below_all l hrow l.length 0 (by omega))
    simp only [pomadelaw03_ChairsBelow.j0]
    rw [if_neg (by decide)]
    rfl
  · refine Ev.step (f := fun _ => some true) (fun k => ?_) (Ev.now _)
    simp only [pomadelaw03_ChairsBelow.j0]
    rw [if_pos (bne_iff_ne.2 hw)]; rfl
end Go.Proofs.Ytfopeenjpdaacaa.L
namespace Go.Proofs.Ytfopeenjpdaacaa.Pure
theorem ChairsBelow : Go.Proofs.Ytfopeenjpdaacaa.PC.pomadelaw03_ChairsBelow.Pure := Go.Proofs.Ytfopeenjpdaacaa.L.ChairsBelow_pure
end Go.Proofs.Ytfopeenjpdaacaa.Pure
