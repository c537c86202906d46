/- Coin systems: what the two tests of a system, the tests of an amount, the comparison of lists and the closed example come to. -/
import Derived.Test.YtgbalmjnjpfopaaPCg3
import Derived.Test.YtgbalmjnjpfopaaPCf18
import Derived.Test.YtgbalmjnjpfopaaPCf32
namespace Go.Proofs.Ytgbalmjnjpfopaa.L
open Go.RowKit Go.Proofs.Ytgbalmjnjpfopaa.PC Go.Proofs.YtgbalmjnjpfopaaW.PrintWords Go.Proofs.YtgbalmjnjpfopaaW.PrintLast

theorem w64 {x : Int} (h0 : -9223372036854775808 ≤ x) (h1 : x ≤ 9223372036854775807) : wrap64 x = x := by unfold wrap64; omega

/-- the closed example -/
theorem alive_ev : Ev pomadelaw05_alive.f true := Ev.of pomadelaw05_alive.mono (k := 3000) (by decide +kernel)

/-- one value and the one before it -/
def okAt (l : List Int) (i : Int) : Prop := rd l i ≤ 5000 ∧ (0 < i → rd l (i - 1) < rd l i)
/-- a coin system -/
def Sys (l : List Int) : Prop := 0 < l.length ∧ l.length ≤ 15 ∧ rd l 0 = 1 ∧ ∀ i : Int, 0 ≤ i → i < l.length → okAt l i

theorem valid_loop (l : List Int) (hl : l.length ≤ 15) (d : Nat) : ∀ i : Int, 0 ≤ i → (l.length : Int) - i = d →
    ((∀ j : Int, i ≤ j → j < l.length → okAt l j) → Ev (fun k => coins_valid.l0 k l l (l.length : Int) i) true) ∧
    (¬ (∀ j : Int, i ≤ j → j < l.length → okAt l j) → Ev (fun k => coins_valid.l0 k l l (l.length : Int) i) false) := by
  induction d with
  | zero =>
    intro i h0 h1
    exact ⟨fun _ => Ev.step (fun k => by simp only [coins_valid.l0]; rw [if_neg (by omega)]) (Ev.now true), fun h => absurd (fun j a b => by omega) h⟩
  | succ d ih =>
    intro i h0 h1
    have hlt : i < (l.length : Int) := by omega
    have hw : wrap64 (i + 1) = i + 1 := w64 (by omega) (by omega)
    have hw2 : wrap64 (i - 1) = i - 1 := w64 (by omega) (by omega)
    obtain ⟨ih1, ih2⟩ := ih (i + 1) (by omega) (by omega)
    by_cases c1 : rd l i > 5000
    · exact ⟨fun h => by have := (h i (by omega) hlt).1; omega, fun _ => Ev.step (fun k => by simp only [coins_valid.l0]; rw [if_pos hlt, if_pos h0, if_pos hlt, if_pos c1]) (Ev.now false)⟩
    by_cases c2 : i > 0
    · by_cases c3 : rd l i ≤ rd l (i - 1)
      · exact ⟨fun h => by have := (h i (by omega) hlt).2 c2; omega, fun _ => Ev.step (fun k => by simp only [coins_valid.l0]; rw [if_pos hlt, if_pos h0, if_pos hlt, if_neg c1, if_pos c2, hw2, if_pos (by omega), if_pos (by omega), if_pos c3]) (Ev.now false)⟩
      · have hok : okAt l i := ⟨by omega, fun _ => by omega⟩
        have e : ∀ k, coins_valid.l0 (k + 1) l l (l.length : Int) i = coins_valid.l0 k l l (l.length : Int) (i + 1) := fun k => by
          simp only [coins_valid.l0]; rw [if_pos hlt, if_pos h0, if_pos hlt, if_neg c1, if_pos c2, hw2, if_pos (by omega), if_pos (by omega), if_neg c3, hw]
        exact ⟨fun h => Ev.step e (ih1 fun j a b => h j (by omega) b), fun h => Ev.step e (ih2 fun g => h fun j a b => by
          by_cases e : j = i
          · rw [e]; exact hok
          · exact g j (by omega) b)⟩
    · have hok : okAt l i := ⟨by omega, fun h => absurd h c2⟩
      have e : ∀ k, coins_valid.l0 (k + 1) l l (l.length : Int) i = coins_valid.l0 k l l (l.length : Int) (i + 1) := fun k => by
        simp only [coins_valid.l0]; rw [if_pos hlt, if_pos h0, if_pos hlt, if_neg c1, if_neg c2, hw]
      exact ⟨fun h => Ev.step e (ih1 fun j a b => h j (by omega) b), fun h => Ev.step e (ih2 fun g => h fun j a b => by
        by_cases e : j = i
        · rw [e]; exact hok
        · exact g j (by omega) b)⟩

theorem valid_ev (l : List Int) : (Sys l → Ev (fun k => coins_valid.f k l) true) ∧ (¬ Sys l → Ev (fun k => coins_valid.f k l) false) := by
  by_cases c1 : (l.length : Int) < 1
  · exact ⟨fun h => by have := h.1; omega, fun _ => Ev.congr (fun k => by unfold coins_valid.f; rw [if_pos c1]) (Ev.step (fun k => by simp only [coins_valid.j0]; rfl) (Ev.now false))⟩
  by_cases c2 : (l.length : Int) > 15
  · exact ⟨fun h => by have := h.2.1; omega, fun _ => Ev.congr (fun k => by unfold coins_valid.f; rw [if_neg c1, if_pos c2]) (Ev.step (fun k => by simp only [coins_valid.j0]; rfl) (Ev.now false))⟩
  have e : ∀ k, coins_valid.f k l = coins_valid.j0 k l ((rd l 0) != 1) := fun k => by unfold coins_valid.f; rw [if_neg c1, if_neg c2, if_pos (by omega)]
  by_cases c3 : rd l 0 = 1
  · obtain ⟨h1, h2⟩ := valid_loop l (by omega) l.length 0 (by omega) (by omega)
    have e2 : ∀ k, coins_valid.j0 (k + 1) l ((rd l 0) != 1) = coins_valid.l0 k l l (l.length : Int) 0 := fun k => by
      simp only [coins_valid.j0]; rw [if_neg (by simp [c3])]
    exact ⟨fun h => Ev.congr e (Ev.step e2 (h1 h.2.2.2)), fun h => Ev.congr e (Ev.step e2 (h2 fun g => h ⟨by omega, by omega, c3, g⟩))⟩
  · exact ⟨fun h => absurd h.2.2.1 c3, fun _ => Ev.congr e (Ev.step (fun k => by simp only [coins_valid.j0]; rw [if_pos (by simpa using c3)]) (Ev.now false))⟩

theorem issys_loop (l : List Int) (hl : l.length ≤ 15) (d : Nat) : ∀ i : Int, 1 ≤ i → (l.length : Int) - i ≤ d →
    ((∀ j : Int, i ≤ j → j < l.length → okAt l j) → Ev (fun k => pomaderef05_IsSystem.l0 k l i) true) ∧
    (¬ (∀ j : Int, i ≤ j → j < l.length → okAt l j) → Ev (fun k => pomaderef05_IsSystem.l0 k l i) false) := by
  induction d with
  | zero =>
    intro i h0 h1
    exact ⟨fun _ => Ev.step (fun k => by simp only [pomaderef05_IsSystem.l0]; rw [if_neg (by omega)]) (Ev.now true), fun h => absurd (fun j a b => by omega) h⟩
  | succ d ih =>
    intro i h0 h1
    by_cases hlt : i < (l.length : Int)
    · have hw : wrap64 (i + 1) = i + 1 := w64 (by omega) (by omega)
      have hw2 : wrap64 (i - 1) = i - 1 := w64 (by omega) (by omega)
      obtain ⟨ih1, ih2⟩ := ih (i + 1) (by omega) (by omega)
      by_cases c3 : rd l i ≤ rd l (i - 1)
      · exact ⟨fun h => by have := (h i (by omega) hlt).2 (by omega); omega, fun _ => Ev.step (fun k => by simp only [pomaderef05_IsSystem.l0]; rw [if_pos hlt, if_pos (by omega), hw2, if_pos (by omega), if_pos (by omega), if_pos c3]) (Ev.now false)⟩
      by_cases c1 : rd l i > 5000
      · exact ⟨fun h => by have := (h i (by omega) hlt).1; omega, fun _ => Ev.step (fun k => by simp only [pomaderef05_IsSystem.l0]; rw [if_pos hlt, if_pos (by omega), hw2, if_pos (by omega), if_pos (by omega), if_neg c3, if_pos c1]) (Ev.now false)⟩
      have hok : okAt l i := ⟨by omega, fun _ => by omega⟩
      have e : ∀ k, pomaderef05_IsSystem.l0 (k + 1) l i = pomaderef05_IsSystem.l0 k l (i + 1) := fun k => by
        simp only [pomaderef05_IsSystem.l0]; rw [if_pos hlt, if_pos (by omega), hw2, if_pos (by omega), if_pos (by omega), if_neg c3, if_neg c1, hw]
      exact ⟨fun h => Ev.step e (ih1 fun j a b => h j (by omega) b), fun h => Ev.step e (ih2 fun g => h fun j a b => by
        by_cases e : j = i
        · rw [e]; exact hok
        · exact g j (by omega) b)⟩
    · exact ⟨fun _ => Ev.step (fun k => by simp only [pomaderef05_IsSystem.l0]; rw [if_neg hlt]) (Ev.now true), fun h => absurd (fun j a b => by omega) h⟩

theorem issys_ev (l : List Int) : (Sys l → Ev (fun k => pomaderef05_IsSystem.f k l) true) ∧ (¬ Sys l → Ev (fun k => pomaderef05_IsSystem.f k l) false) := by
  by_cases c1 : (l.length : Int) < 1
  · exact ⟨fun h => by have := h.1; omega, fun _ => Ev.congr (fun k => by unfold pomaderef05_IsSystem.f; rw [if_pos c1]) (Ev.step (fun k => by simp only [pomaderef05_IsSystem.j0]; rfl) (Ev.now false))⟩
  by_cases c2 : (l.length : Int) > 15
  · exact ⟨fun h => by have := h.2.1; omega, fun _ => Ev.congr (fun k => by unfold pomaderef05_IsSystem.f; rw [if_neg c1, if_pos c2]) (Ev.step (fun k => by simp only [pomaderef05_IsSystem.j0]; rfl) (Ev.now false))⟩
  have e : ∀ k, pomaderef05_IsSystem.f k l = pomaderef05_IsSystem.j0 k l ((rd l 0) != 1) := fun k => by unfold pomaderef05_IsSystem.f; rw [if_neg c1, if_neg c2, if_pos (by omega)]
  by_cases c3 : rd l 0 = 1
  · obtain ⟨h1, h2⟩ := issys_loop l (by omega) l.length 1 (by omega) (by omega)
    have h00 : okAt l 0 := ⟨by omega, fun h => by omega⟩
    have e2 : ∀ k, pomaderef05_IsSystem.j0 (k + 1) l ((rd l 0) != 1) = pomaderef05_IsSystem.l0 k l 1 := fun k => by
      simp only [pomaderef05_IsSystem.j0]; rw [if_neg (by simp [c3])]
    exact ⟨fun h => Ev.congr e (Ev.step e2 (h1 fun j a b => h.2.2.2 j (by omega) b)), fun h => Ev.congr e (Ev.step e2 (h2 fun g => h ⟨by omega, by omega, c3, fun j a b => by
      by_cases e : j = 0
      · rw [e]; exact h00
      · exact g j (by omega) b⟩))⟩
  · exact ⟨fun h => absurd h.2.2.1 c3, fun _ => Ev.congr e (Ev.step (fun k => by simp only [pomaderef05_IsSystem.j0]; rw [if_pos (by simpa using c3)]) (Ev.now false))⟩

open Classical in
/-- the error of a system and an amount -/
noncomputable def err (l : List Int) (a most : Int) : Int := if Sys l then (if a < 0 then 4 else if a > most then 4 else 0) else 2
theorem looked_ev (l : List Int) (a m : Int) : Ev (fun k => coins_looked.f k l a m) (err l a m) := by
  unfold err
  by_cases h : Sys l
  · rw [if_pos h]
    refine Ev.bind ((valid_ev l).1 h) ?_
    simp only [if_true]
    split
    · exact Ev.now 4
    · split
      · exact Ev.now 4
      · exact Ev.now 0
  · rw [if_neg h]
    exact Ev.bind ((valid_ev l).2 h) (Ev.now 2)
theorem asked_ev (l : List Int) (a m : Int) : Ev (fun k => pomaderef05_asked.f k l a m) (err l a m) := by
  unfold err
  by_cases h : Sys l
  · rw [if_pos h]
    refine Ev.bind ((issys_ev l).1 h) ?_
    simp only [if_true]
    split
    · exact Ev.now 4
    · split
      · exact Ev.now 4
      · exact Ev.now 0
  · rw [if_neg h]
    exact Ev.bind ((issys_ev l).2 h) (Ev.now 2)
theorem err_zero {l : List Int} {a m : Int} (h : err l a m = 0) : Sys l ∧ 0 ≤ a ∧ a ≤ m := by
  unfold err at h
  split at h
  · split at h
    · omega
    · split at h
      · omega
      · exact ⟨by assumption, by omega, by omega⟩
  · omega

/-- a list is the same as itself -/
theorem same_loop (l : List Int) (hl : l.length ≤ 1000000) (d : Nat) : ∀ i : Int, 0 ≤ i → (l.length : Int) - i = d → Ev (fun k => pomadelaw05_same.l0 k l l i) true := by
  induction d with
  | zero => exact fun i h0 h1 => Ev.step (fun k => by simp only [pomadelaw05_same.l0]; rw [if_neg (by omega)]) (Ev.now true)
  | succ d ih =>
    intro i h0 h1
    refine Ev.step (fun k => ?_) (ih (i + 1) (by omega) (by omega))
    simp only [pomadelaw05_same.l0]
    rw [if_pos (by omega), if_pos h0, if_pos (by omega), w64 (by omega) (by omega)]
    simp
theorem same_ev (l : List Int) (hl : l.length ≤ 1000000) : Ev (fun k => pomadelaw05_same.f k l l) true :=
  Ev.congr (fun k => by unfold pomadelaw05_same.f; rw [if_pos rfl]) (same_loop l hl l.length 0 (by omega) (by omega))

/-! ### values of a system -/
theorem rd_mem {l : List Int} {x : Int} (h : x ∈ l) : ∃ i : Nat, i < l.length ∧ rd l (i : Int) = x := by
  obtain ⟨i, hi, rfl⟩ := List.getElem_of_mem h
  exact ⟨i, hi, by simp [rd, List.getD_eq_getElem?_getD, hi]⟩
theorem Sys.pos {l : List Int} (h : Sys l) (i : Nat) (hi : i < l.length) : (i : Int) + 1 ≤ rd l (i : Int) := by
  induction i with
  | zero => have := h.2.2.1; simp at this ⊢; omega
  | succ i ih =>
    have h1 := ih (by omega)
    have h2 := (h.2.2.2 ((i + 1 : Nat) : Int) (by omega) (by omega)).2 (by omega)
    rw [show ((i + 1 : Nat) : Int) - 1 = (i : Int) from by omega] at h2
    omega
theorem Sys.range {l : List Int} (h : Sys l) : ∀ v ∈ l, 1 ≤ v ∧ v ≤ 5000 := by
  intro v hv
  obtain ⟨i, hi, rfl⟩ := rd_mem hv
  have := h.pos i hi
  have := (h.2.2.2 (i : Int) (by omega) (by omega)).1
  omega
theorem sys_rd {l : List Int} (hs : Sys l) (i : Nat) (hi : i < l.length) : 1 ≤ rd l (i : Int) ∧ rd l (i : Int) ≤ 5000 := hs.range _ (by simp [rd, List.getD_eq_getElem?_getD, hi])
end Go.Proofs.Ytgbalmjnjpfopaa.L
