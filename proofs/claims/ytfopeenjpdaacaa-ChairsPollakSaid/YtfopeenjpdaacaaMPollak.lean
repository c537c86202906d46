/- Pollak's circle, in plain numbers: of all turns of n wishes around n + 1 chairs exactly one is good. -/
namespace Go.Proofs.Ytfopeenjpdaacaa.MPollak
/-- how many of w, w + M lie below j -/
def A (M w j : Nat) : Nat := (if w < j then 1 else 0) + (if w + M < j then 1 else 0)
def cA (M : Nat) (ws : List Nat) (j : Nat) : Nat := (ws.map fun w => A M w j).sum
theorem turn_one {M w t s k : Nat} (hw : w < M) (hs : s + t = M) (hk : k ≤ M) : A M w (s + k) = A M w s + if (w + t) % M < k then 1 else 0 := by
  have e : (w + t) % M = if w + t < M then w + t else w + t - M := by
    by_cases h : w + t < M
    · rw [if_pos h, Nat.mod_eq_of_lt h]
    · rw [if_neg h, Nat.mod_eq_sub_mod (by omega), Nat.mod_eq_of_lt (by omega)]
  rw [e]
  unfold A
  split <;> split <;> split <;> split <;> split <;> split <;> omega
theorem turn_all {M t s k : Nat} (ws : List Nat) (hw : ∀ w ∈ ws, w < M) (hs : s + t = M) (hk : k ≤ M) : cA M ws (s + k) = cA M ws s + ws.countP (fun w => decide ((w + t) % M < k)) := by
  induction ws with
  | nil => rfl
  | cons w ws ih =>
    have h1 := turn_one (hw w List.mem_cons_self) hs hk
    have h2 := ih (fun x hx => hw x (List.mem_cons_of_mem _ hx))
    unfold cA at h2 ⊢
    rw [List.map_cons, List.sum_cons, List.map_cons, List.sum_cons, h1, h2, List.countP_cons]
    by_cases c : (w + t) % M < k <;> simp [c] <;> omega
theorem around {M j : Nat} (ws : List Nat) (hw : ∀ w ∈ ws, w < M) (hj : j ≤ M) : cA M ws (M + j) = cA M ws j + ws.length := by
  induction ws with
  | nil => rfl
  | cons w ws ih =>
    have h0 := hw w List.mem_cons_self
    have h1 : A M w (M + j) = A M w j + 1 := by unfold A; split <;> split <;> split <;> split <;> omega
    have h2 := ih (fun x hx => hw x (List.mem_cons_of_mem _ hx))
    unfold cA at h2 ⊢
    rw [List.map_cons, List.sum_cons, List.map_cons, List.sum_cons, h1, h2, List.length_cons]
    omega
theorem first_min (F : Nat → Int) : ∀ M, 1 ≤ M → ∃ s, 1 ≤ s ∧ s ≤ M ∧ (∀ i, 1 ≤ i → i < s → F s < F i) ∧ ∀ j, s ≤ j → j ≤ M → F s ≤ F j
  | 0, h => by omega
  | 1, _ => ⟨1, by omega, by omega, fun i h1 h2 => by omega, fun j h1 h2 => by rw [show j = 1 by omega]; exact Int.le_refl _⟩
  | M + 2, _ => by
    obtain ⟨s, h1, h2, h3, h4⟩ := first_min F (M + 1) (by omega)
    by_cases c : F s ≤ F (M + 2)
    · exact ⟨s, h1, by omega, h3, fun j a b => by
        by_cases e : j = M + 2
        · rw [e]; exact c
        · exact h4 j a (by omega)⟩
    · refine ⟨M + 2, by omega, by omega, fun i a b => ?_, fun j a b => by rw [show j = M + 2 by omega]; exact Int.le_refl _⟩
      by_cases e : i < s
      · have := h3 i a e; omega
      · have := h4 i (by omega) (by omega); omega
/-- the turn by t is good -/
def Good (n t : Nat) (ws : List Nat) : Prop := ∀ k, 1 ≤ k → k ≤ n → k ≤ ws.countP (fun w => decide ((w + t) % (n + 1) < k))
theorem good_iff {n t s : Nat} {ws : List Nat} (hw : ∀ w ∈ ws, w < n + 1) (hs : s + t = n + 1) : Good n t ws ↔ ∀ k, 1 ≤ k → k ≤ n → cA (n + 1) ws s + k ≤ cA (n + 1) ws (s + k) := by
  constructor
  · intro h k h1 h2
    rw [turn_all ws hw hs (by omega)]
    have := h k h1 h2
    omega
  · intro h k h1 h2
    have := h k h1 h2
    rw [turn_all ws hw hs (by omega)] at this
    omega
theorem one_turn {n : Nat} {ws : List Nat} (hn : ws.length = n) (hw : ∀ w ∈ ws, w < n + 1) : ∃ t, t ≤ n ∧ ∀ i, i ≤ n → (Good n i ws ↔ i = t) := by
  obtain ⟨s, h1, h2, h3, h4⟩ := first_min (fun j => (cA (n + 1) ws j : Int) - j) (n + 1) (by omega)
  have key : ∀ j, j ≤ n + 1 → cA (n + 1) ws (n + 1 + j) = cA (n + 1) ws j + n := fun j hj => by rw [around ws hw hj, hn]
  refine ⟨n + 1 - s, by omega, fun i hi => ?_⟩
  rw [good_iff (s := n + 1 - i) hw (by omega)]
  constructor
  · intro h
    refine Classical.byContradiction fun hne => ?_
    rcases Nat.lt_or_ge (n + 1 - i) s with c | c
    · have a := h3 (n + 1 - i) (by omega) c
      have b := h (s - (n + 1 - i)) (by omega) (by omega)
      rw [show n + 1 - i + (s - (n + 1 - i)) = s by omega] at b

      omega
    · have a := h4 (n + 1 - i) c (by omega)
      have b := h (n + 1 + s - (n + 1 - i)) (by omega) (by omega)
      rw [show n + 1 - i + (n + 1 + s - (n + 1 - i)) = n + 1 + s by omega, key s h2] at b

      omega
  · intro e k a b
    rw [show n + 1 - i = s by omega]
    by_cases c : s + k ≤ n + 1
    · have := h4 (s + k) (by omega) c

      omega
    · have := h3 (s + k - (n + 1)) (by omega) (by omega)
      have g := key (s + k - (n + 1)) (by omega)
      rw [show n + 1 + (s + k - (n + 1)) = s + k by omega] at g

      omega
end Go.Proofs.Ytfopeenjpdaacaa.MPollak
