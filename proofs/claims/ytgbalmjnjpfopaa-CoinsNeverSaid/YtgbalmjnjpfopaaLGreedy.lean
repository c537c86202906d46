/- Coin systems: the specification's greedy change is the greedy change of the program. -/
import Derived.Test.YtgbalmjnjpfopaaLBase
import Derived.Test.YtgbalmjnjpfopaaPCf14
namespace Go.Proofs.Ytgbalmjnjpfopaa.L
open Go.RowKit Go.Proofs.Ytgbalmjnjpfopaa.PC Go.Proofs.YtgbalmjnjpfopaaW.PrintWords Go.Proofs.YtgbalmjnjpfopaaW.PrintLast

theorem gl_rem (l : List Int) (a : Int) (hv : ∀ v ∈ l, 1 ≤ v) (ha : 0 ≤ a) : 0 ≤ (coins_greedy.gl l a).2 ∧ (coins_greedy.gl l a).2 ≤ a := by
  induction l with
  | nil => exact ⟨ha, Int.le_refl _⟩
  | cons v l ih =>
    obtain ⟨h1, h2⟩ := ih (fun x hx => hv x (List.mem_cons_of_mem _ hx))
    have hv1 := hv v List.mem_cons_self
    have h3 := Int.emod_nonneg (coins_greedy.gl l a).2 (show v ≠ 0 by omega)
    have h5 := Int.emod_add_mul_ediv (coins_greedy.gl l a).2 v
    have h6 := Int.mul_nonneg (show 0 ≤ v by omega) (Int.ediv_nonneg h1 (show 0 ≤ v by omega))
    simp only [coins_greedy.gl]
    omega

theorem greedily_loop (l : List Int) (a : Int) (hl : l.length ≤ 1000) (hv : ∀ v ∈ l, 1 ≤ v ∧ v ≤ 1000000) (ha : 0 ≤ a) (ha2 : a ≤ 1152921504606846976) (q : Nat) : ∀ out : List Int, q ≤ l.length → out = List.replicate q 0 ++ (coins_greedy.gl (l.drop q) a).1 →
    Ev (fun k => pomaderef05_Greedily.l0 k l (coins_greedy.gl (l.drop q) a).2 out ((q : Int) - 1)) (coins_greedy.gl l a).1 := by
  induction q with
  | zero =>
    intro out _ ho
    refine Ev.step (f := fun _ => some out) (fun k => by simp only [pomaderef05_Greedily.l0]; rw [if_neg (by omega)]) ?_
    rw [ho]
    simpa using Ev.now _
  | succ q ih =>
    intro out hq ho
    have hd : l.drop q = l[q] :: l.drop (q + 1) := List.drop_eq_getElem_cons (by omega)
    have hr : rd l ((q + 1 : Nat) - 1 : Int) = l[q] := by
      rw [show (((q + 1 : Nat) : Int) - 1) = (q : Int) from by omega]
      simp [rd, List.getD_eq_getElem?_getD, show q < l.length from by omega]
    have hvq := hv l[q] (List.getElem_mem _)
    obtain ⟨g0, g1⟩ := gl_rem (l.drop (q + 1)) a (fun v hm => (hv v (List.mem_of_mem_drop hm)).1) ha
    have hol : out.length = l.length := by
      rw [ho]; simp [coins_greedy.gl_len]; omega
    have hdiv : Int.tdiv (coins_greedy.gl (l.drop (q + 1)) a).2 l[q] = (coins_greedy.gl (l.drop (q + 1)) a).2 / l[q] := Int.tdiv_eq_ediv_of_nonneg g0
    have hmod : Int.tmod (coins_greedy.gl (l.drop (q + 1)) a).2 l[q] = (coins_greedy.gl (l.drop (q + 1)) a).2 % l[q] := Int.tmod_eq_emod_of_nonneg g0
    have hd0 := Int.ediv_nonneg g0 (show 0 ≤ l[q] by omega)
    have hd1 : (coins_greedy.gl (l.drop (q + 1)) a).2 / l[q] ≤ (coins_greedy.gl (l.drop (q + 1)) a).2 := Int.ediv_le_self _ g0
    have hih := ih (out.set q ((coins_greedy.gl (l.drop (q + 1)) a).2 / l[q])) (by omega) (by
      rw [hd]
      simp only [coins_greedy.gl]
      rw [ho, List.replicate_succ', List.append_assoc, List.set_append_right _ _ (by simp)]
      simp)
    rw [hd] at hih
    simp only [coins_greedy.gl] at hih
    refine Ev.step (fun k => ?_) hih
    simp only [pomaderef05_Greedily.l0]
    rw [hr, if_pos (by omega), if_pos (by omega), if_pos (by omega), if_neg (by omega), if_pos (by omega), hdiv, hmod, w64 (by omega) (by omega), w64 (by omega) (by omega), show (((q + 1 : Nat) : Int) - 1).toNat = q from by omega, show ((q + 1 : Nat) : Int) - 1 - 1 = (q : Int) - 1 from by omega]
theorem greedily_ev (l : List Int) (a : Int) (hl : l.length ≤ 1000) (hv : ∀ v ∈ l, 1 ≤ v ∧ v ≤ 1000000) (ha : 0 ≤ a) (ha2 : a ≤ 1152921504606846976) : Ev (fun k => pomaderef05_Greedily.f k l a) (coins_greedy.gl l a).1 := by
  refine Ev.congr (fun k => by unfold pomaderef05_Greedily.f; rw [if_pos (by omega), if_pos (by omega), Int.toNat_natCast, w64 (by omega) (by omega)]) ?_
  have h := greedily_loop l a hl hv ha ha2 l.length (List.replicate l.length 0) (Nat.le_refl _) (by simp [coins_greedy.gl])
  simpa [coins_greedy.gl] using h
theorem greedy_ev (l : List Int) (a : Int) (hl : l.length ≤ 40) (hv : ∀ v ∈ l, 1 ≤ v ∧ v ≤ 1000000) (ha : 0 ≤ a) (ha2 : a ≤ 1152921504606846976) : Ev (fun k => coins_greedy.f k l a) (coins_greedy.gl l a).1 :=
  Ev.congr (fun k => by unfold coins_greedy.f; rw [if_pos ⟨hl, hv, ha, ha2⟩]) (Ev.now _)

/-- what Greedy returns -/
noncomputable def greedyV (l : List Int) (a : Int) : List Int × Int := if err l a 1152921504606846976 = 0 then ((coins_greedy.gl l a).1, 0) else ([], err l a 1152921504606846976)
theorem greedyV_ev (l : List Int) (a : Int) : Ev (fun k => coins_Greedy.f k l a) (greedyV l a) := by
  refine Ev.bind (looked_ev l a _) ?_
  unfold greedyV
  split
  · rename_i h
    obtain ⟨hs, h0, h1⟩ := err_zero h
    exact Ev.bind (greedy_ev l a (by have := hs.2.1; omega) (fun v hv => by have := hs.range v hv; omega) h0 h1) (Ev.now _)
  · exact Ev.now _
theorem refGreedyV_ev (l : List Int) (a : Int) : Ev (fun k => pomaderef05_Greedy.f k l a) (greedyV l a) := by
  refine Ev.bind (asked_ev l a _) ?_
  unfold greedyV
  split
  · rename_i h
    obtain ⟨hs, h0, h1⟩ := err_zero h
    exact Ev.bind (greedily_ev l a (by have := hs.2.1; omega) (fun v hv => by have := hs.range v hv; omega) h0 h1) (Ev.now _)
  · exact Ev.now _
theorem greedyV_len (l : List Int) (a : Int) (hl : l.length ≤ 40) : (greedyV l a).1.length ≤ 40 := by
  unfold greedyV
  split
  · simp only [coins_greedy.gl_len]; exact hl
  · simp
end Go.Proofs.Ytgbalmjnjpfopaa.L
