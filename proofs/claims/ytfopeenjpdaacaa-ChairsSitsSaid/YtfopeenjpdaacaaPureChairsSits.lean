/- Chairs: ChairsSits. -/
import Derived.Test.YtfopeenjpdaacaaLSit
import Derived.Test.YtfopeenjpdaacaaPCf10
namespace Go.Proofs.Ytfopeenjpdaacaa.L
open Go.RowKit Go.Proofs.Ytfopeenjpdaacaa.PC Go.Proofs.YtfopeenjpdaacaaW.PrintWords Go.Proofs.YtfopeenjpdaacaaW.PrintLast
theorem sitL_len (m : Int) : ∀ (l : List Int) (T : List Bool) (out : List Int), (sitL m l T out).2 = true → (sitL m l T out).1.length = out.length + l.length := by
  intro l
  induction l with
  | nil => intro T out _; simp [sitL]
  | cons w l ih =>
    intro T out h
    simp only [sitL] at h ⊢
    split at h
    · simp at h
    · rename_i c
      rw [if_neg c, ih _ _ h]
      simp; omega
theorem sitV_len (m : Int) (l : List Int) (h : (sitV m l).2 = true) : (sitV m l).1.length = l.length := by
  have := sitL_len m l _ _ h
  unfold sitV
  simpa using this
theorem moved_loop (l ch : List Int) (hc : ch.length = l.length) (hl : l.length ≤ 1000000) (d : Nat) : ∀ (q : Nat) (far lucky : Int), q + d = l.length →
    ∃ r, Ev (fun k => chairs_Moved.l0 k l far lucky ch (ch.length : Int) (q : Int)) r ∧ Ev (fun k => pomaderef03_Moved.l0 k l ch far lucky (q : Int)) r := by
  induction d with
  | zero =>
    intro q far lucky hq
    refine ⟨(far, lucky, 0), Ev.step (f := fun _ => some (far, lucky, 0)) (fun k => ?_) (Ev.now _), Ev.step (f := fun _ => some (far, lucky, 0)) (fun k => ?_) (Ev.now _)⟩
    · simp only [chairs_Moved.l0]; rw [if_neg (by omega)]
    · simp only [pomaderef03_Moved.l0]; rw [if_neg (by omega)]
  | succ d ih =>
    intro q far lucky hq
    by_cases c : rd ch (q : Int) = rd l (q : Int)
    · obtain ⟨r, h1, h2⟩ := ih (q + 1) (wrap64 (far + wrap64 (rd ch (q : Int) - rd l (q : Int)))) (wrap64 (lucky + 1)) (by omega)
      refine ⟨r, Ev.step (fun k => ?_) h1, Ev.step (fun k => ?_) h2⟩
      · simp only [chairs_Moved.l0]
        rw [if_pos (by omega), if_pos (by omega), if_pos (by omega), if_pos (by omega), if_pos c, w64 (x := (q : Int) + 1) (by omega) (by omega)]
        rfl
      · simp only [pomaderef03_Moved.l0]
        rw [if_pos (by omega), if_pos (by omega), if_pos (by omega), if_pos c, w64 (x := (q : Int) + 1) (by omega) (by omega)]
        rfl
    · obtain ⟨r, h1, h2⟩ := ih (q + 1) (wrap64 (far + wrap64 (rd ch (q : Int) - rd l (q : Int)))) lucky (by omega)
      refine ⟨r, Ev.step (fun k => ?_) h1, Ev.step (fun k => ?_) h2⟩
      · simp only [chairs_Moved.l0]
        rw [if_pos (by omega), if_pos (by omega), if_pos (by omega), if_pos (by omega), if_neg c, w64 (x := (q : Int) + 1) (by omega) (by omega)]
        rfl
      · simp only [pomaderef03_Moved.l0]
        rw [if_pos (by omega), if_pos (by omega), if_pos (by omega), if_neg c, w64 (x := (q : Int) + 1) (by omega) (by omega)]
        rfl
theorem moved_both (m : Int) (l : List Int) (hl : l.length ≤ 1000000) : ∃ r, Ev (fun k => chairs_Moved.f k m l) r ∧ Ev (fun k => pomaderef03_Moved.f k m l) r := by
  by_cases h : (SitV m l).2 = 0
  · have hc : (SitV m l).1.length = l.length := by
      unfold SitV at h ⊢
      split at h
      · rename_i h1
        rw [if_pos h1]
        split at h
        · rename_i h2
          rw [if_pos h2]
          exact sitV_len m l h2
        · simp at h
      · rename_i h1; exact absurd h h1
    obtain ⟨r, h1, h2⟩ := moved_loop l (SitV m l).1 hc hl l.length 0 0 0 (by omega)
    exact ⟨r, Ev.bind (Sit_ev m l) (Ev.congr (fun k => if_pos h) h1), Ev.bind (rSit_ev m l hl) (Ev.congr (fun k => if_pos h) h2)⟩
  · exact ⟨(0, 0, (SitV m l).2), Ev.bind (Sit_ev m l) (Ev.congr (fun k => if_neg h) (Ev.now _)), Ev.bind (rSit_ev m l hl) (Ev.congr (fun k => if_neg h) (Ev.now _))⟩
theorem SitV_len (m : Int) (l : List Int) : (SitV m l).1.length ≤ l.length := by
  unfold SitV
  split
  · split
    · rename_i h
      have := sitV_len m l h
      show (sitV m l).1.length ≤ l.length
      omega
    · simp
  · simp
theorem ChairsSits_pure : pomadelaw03_ChairsSits.Pure := by
  intro m l _ _ _ _
  refine Ev.rounds ?_
  by_cases c : (l.length : Int) > 60
  · exact Ev.congr (fun k => by unfold pomadelaw03_ChairsSits.f; rw [if_pos c]; rfl) (Ev.now true)
  have hl : l.length ≤ 1000000 := by omega
  obtain ⟨r, hr1, hr2⟩ := moved_both m l hl
  have e1 := Sit_ev m l
  have e2 := rSit_ev m l hl
  have e3 := Good_ev m l
  have e4 := rGood_ev m l hl
  refine Ev.congr (f := fun k => (chairs_Sit.f k m l).bind fun bt223 => ((pomaderef03_Sit.f k m l).bind fun bt227 => ((pomadelaw03_same.f k bt223.1 bt227.1).bind fun t231 => (if t231 = true then (pomadelaw03_ChairsSits.j0 k m l l (bt223.2 != bt227.2)) else (pomadelaw03_ChairsSits.j0 k m l l true))))) (fun k => ?_) ?_
  · unfold pomadelaw03_ChairsSits.f
    rw [if_neg c, Option.bind_some, if_pos (by simp; omega), Option.bind_some, List.nil_append]
  refine Ev.bind e1 (Ev.bind e2 (Ev.bind (same_ev _ (by have := SitV_len m l; omega)) ?_))
  simp only [if_true, bne_self_eq_false]
  refine Ev.step (f := fun k => (chairs_Good.f k m l).bind fun bt232 => ((pomaderef03_Good.f k m l).bind fun bt234 => (if (bt232.1 != bt234.1) = true then (pomadelaw03_ChairsSits.j1 k m l l true) else (pomadelaw03_ChairsSits.j1 k m l l (bt232.2 != bt234.2))))) (fun k => ?_) ?_
  · simp only [pomadelaw03_ChairsSits.j0]; rw [if_neg (by simp)]
  refine Ev.bind e3 (Ev.bind e4 ?_)
  simp only [bne_self_eq_false, if_neg Bool.false_ne_true]
  refine Ev.step (f := fun k => (chairs_Moved.f k m l).bind fun x => (pomaderef03_Moved.f k m l).bind fun y => (if x.1 = y.1 then (if x.2.1 = y.2.1 then (if x.2.2 = y.2.2 then ((pomadelaw03_same.f k l l).bind fun t => (if t = true then ((pomadelaw03_alive.f).bind fun t => (some t)) else (some false))) else (some false)) else (some false)) else (some false))) (fun k => ?_) ?_
  · simp only [pomadelaw03_ChairsSits.j1]; rw [if_neg (by simp)]
  refine Ev.bind hr1 (Ev.bind hr2 ?_)
  simp only [if_true]
  refine Ev.bind (same_ev l hl) ?_
  simp only [if_true]
  exact Ev.now true
end Go.Proofs.Ytfopeenjpdaacaa.L
namespace Go.Proofs.Ytfopeenjpdaacaa.Pure
theorem ChairsSits : Go.Proofs.Ytfopeenjpdaacaa.PC.pomadelaw03_ChairsSits.Pure := Go.Proofs.Ytfopeenjpdaacaa.L.ChairsSits_pure
end Go.Proofs.Ytfopeenjpdaacaa.Pure
