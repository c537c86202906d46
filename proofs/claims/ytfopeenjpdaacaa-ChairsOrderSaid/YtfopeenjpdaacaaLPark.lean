/- Who sits where, told by the plain parking: the program's row of chairs and the plain one. -/
import Derived.Test.YtfopeenjpdaacaaLSit
import Derived.Test.YtfopeenjpdaacaaMPark
import Derived.Test.YtfopeenjpdaacaaPCg2
namespace Go.Proofs.Ytfopeenjpdaacaa.L
open Go.RowKit Go.Proofs.Ytfopeenjpdaacaa.PC Go.Proofs.YtfopeenjpdaacaaW.PrintWords Go.Proofs.YtfopeenjpdaacaaW.PrintLast Go.Proofs.Ytfopeenjpdaacaa.MPark
theorem seat_nx (m : Int) (T : List Bool) (S : Nat → Bool) (hS : ∀ j, S j = T.getD j false) (d : Nat) : ∀ c : Int, 0 ≤ c → c + d = m →
    (seat T d c < m → Nx S c.toNat (seat T d c).toNat) ∧ (seat T d c = m → ∀ j : Nat, c.toNat ≤ j → (j : Int) < m → S j = true) := by
  induction d with
  | zero =>
    intro c h0 hc
    simp only [seat]
    exact ⟨fun h => by omega, fun _ j h1 h2 => by omega⟩
  | succ d ih =>
    intro c h0 hc
    simp only [seat]
    have e : rdOf false T c = S c.toNat := by rw [hS]; rfl
    rw [e]
    cases hs : S c.toNat with
    | false =>
      simp only [Bool.false_eq_true, if_false]
      exact ⟨fun _ => ⟨Nat.le_refl _, hs, fun j h1 h2 => by omega⟩, fun h => by omega⟩
    | true =>
      simp only [if_true]
      obtain ⟨h1, h2⟩ := ih (c + 1) (by omega) (by omega)
      refine ⟨fun h => ?_, fun h j h3 h4 => ?_⟩
      · obtain ⟨a, b, f⟩ := h1 h
        refine ⟨by omega, b, fun j h3 h4 => ?_⟩
        by_cases g : j = c.toNat
        · rw [g]; exact hs
        · exact f j (by omega) h4
      · by_cases g : j = c.toNat
        · rw [g]; exact hs
        · exact h2 h j (by omega) h4
theorem sitL_park (m : Int) (l : List Int) : ∀ (T : List Bool) (S S' : Nat → Bool) (cs : List Nat) (out : List Int), (T.length : Int) = m → (∀ w ∈ l, 0 ≤ w ∧ w < m) → (∀ j, S j = T.getD j false) → Park (l.map Int.toNat) S S' cs →
    sitL m l T out = if cs.all (fun c => decide ((c : Int) < m)) = true then (out ++ cs.map (fun c : Nat => (c : Int)), true) else ([], false) := by
  induction l with
  | nil =>
    intro T S S' cs out hT hall hS hP
    cases hP
    simp [sitL]
  | cons w ws ih =>
    intro T S S' cs out hT hall hS hP
    obtain ⟨w0, w1⟩ := hall w List.mem_cons_self
    rw [List.map_cons] at hP
    cases hP with
    | @cons _ _ _ c _ cs hN hP =>
      obtain ⟨h1, h2⟩ := seat_nx m T S hS (m - w).toNat w w0 (by omega)
      have hr := seat_range T (m - w).toNat w
      simp only [sitL]
      by_cases e : seat T (m - w).toNat w = m
      · rw [if_pos e]
        have hc : ¬ (c : Int) < m := fun hc => by
          have := h2 e c hN.le hc
          rw [hN.free] at this
          cases this
        rw [if_neg]
        simp [hc]
      · rw [if_neg e]
        have hlt : seat T (m - w).toNat w < m := by omega
        have hc := (h1 hlt).uniq hN
        have hci : seat T (m - w).toNat w = (c : Int) := by omega
        rw [hci, Int.toNat_natCast]
        rw [ih (T.set c true) (up S c) S' cs (out ++ [(c : Int)]) (by rw [List.length_set]; exact hT) (fun x hx => hall x (List.mem_cons_of_mem _ hx)) (fun j => by
          unfold up
          by_cases g : j = c
          · rw [if_pos g, g, List.getD_eq_getElem?_getD, List.getElem?_set_self (by omega)]; rfl
          · rw [if_neg g, hS j, List.getD_eq_getElem?_getD, List.getD_eq_getElem?_getD, List.getElem?_set_ne (Ne.symm g)]) hP]
        have hcm : decide ((c : Int) < m) = true := decide_eq_true (by omega)
        simp [hcm]
/-- who sits where, by the plain parking -/
theorem sitV_park (m : Int) (l : List Int) (h : Row m l) : ∃ S' cs, Park (l.map Int.toNat) no S' cs ∧ sitV m l = if cs.all (fun c => decide ((c : Int) < m)) = true then (cs.map (fun c : Nat => (c : Int)), true) else ([], false) := by
  obtain ⟨S', cs, hP⟩ := Park.ex (l.map Int.toNat) no 0 (fun _ _ => rfl)
  refine ⟨S', cs, hP, ?_⟩
  have h1 := h.m1
  have := sitL_park m l (List.replicate m.toNat false) no S' cs [] (by simp; omega) h.all (fun j => by
    unfold no
    rw [List.getD_eq_getElem?_getD, List.getElem?_replicate]
    split <;> rfl) hP
  simpa [sitV] using this
/-- how many wish a chair below k -/
def below (l : List Int) (k : Int) : Nat := l.countP (fun w => decide (w < k))
theorem below_nat (l : List Int) (h : ∀ w ∈ l, 0 ≤ w) (k : Nat) : (l.map Int.toNat).countP (fun c => decide (c < k)) = below l (k : Int) := by
  unfold below
  rw [List.countP_map]
  refine List.countP_congr fun w hw => ?_
  have := h w hw
  simp
  omega
/-- wishes of n customers for n chairs are good exactly if at least k of them are below k, for each k -/
theorem good_below (l : List Int) (h : Row (l.length : Int) l) : (sitV (l.length : Int) l).2 = true ↔ ∀ k : Nat, 1 ≤ k → k ≤ l.length → k ≤ below l (k : Int) := by
  obtain ⟨S', cs, hP, e⟩ := sitV_park _ l h
  have hg := good_iff hP
  rw [List.length_map] at hg
  have e2 : (sitV (l.length : Int) l).2 = true ↔ ∀ c ∈ cs, c < l.length := by
    rw [e]
    by_cases c : cs.all (fun c => decide ((c : Int) < (l.length : Int))) = true
    · rw [if_pos c]
      simpa using c
    · rw [if_neg c]
      simpa using c
  rw [e2, hg]
  constructor
  · intro g k h1 h2
    have := g k h1 h2
    rwa [below_nat l (fun w hw => (h.all w hw).1)] at this
  · intro g k h1 h2
    rw [below_nat l (fun w hw => (h.all w hw).1)]
    exact g k h1 h2
theorem whole_ev (l : List Int) (hl : l.length ≤ 1000000) : Ev (fun k => pomaderef03_Whole.f k l) (if l.length = 0 ∨ l.length > 30 then 3 else rowV (l.length : Int) l) := by
  by_cases c1 : l.length = 0
  · rw [if_pos (Or.inl c1)]
    exact Ev.congr (fun k => by unfold pomaderef03_Whole.f; rw [if_pos (by omega)]) (Ev.now _)
  by_cases c2 : l.length > 30
  · rw [if_pos (Or.inr c2)]
    exact Ev.congr (fun k => by unfold pomaderef03_Whole.f; rw [if_neg (by omega), if_pos (by omega)]) (Ev.now _)
  rw [if_neg (by omega)]
  refine Ev.congr (fun k => by unfold pomaderef03_Whole.f; rw [if_neg (by omega), if_neg (by omega)]) ?_
  exact Ev.bind (row_ev _ l hl) (Ev.now _)
end Go.Proofs.Ytfopeenjpdaacaa.L
