/- Plait: PlaitRoads: Roads and Next return what the specification returns. -/
import Derived.Test.YtjfkompfkgjdaaaLNext
import Derived.Test.YtjfkompfkgjdaaaPCf30
import Derived.Test.YtjfkompfkgjdaaaPCf34
import Derived.Test.YtjfkompfkgjdaaaPCf8
namespace Go.Proofs.Ytjfkompfkgjdaaa.L
open Go.RowKit Go.Proofs.Ytjfkompfkgjdaaa.PC Go.Proofs.YtjfkompfkgjdaaaW.PrintWords Go.Proofs.YtjfkompfkgjdaaaW.PrintLast
/-- what partners and System say of a string -/
theorem part_sys (s : ByteArray) (hs : s.size ≤ 1000) : ∃ (e : Int) (p o : List Int) (b : Bool), Ev (fun k => plait_partners.f k s) (p, e) ∧ Ev (fun k => pomaderef07_System.f k s) e ∧ Ev (fun k => pomaderef07_partners.f k s) (o, b) ∧ (e = 0 → Arch s o ∧ p = o) := by
  rcases partners_both s hs with ⟨o, hA, h1, h2⟩ | ⟨o, h1, h2⟩
  · have h3 := sys_ev s true o h2
    by_cases c : s.size > 24
    · rw [if_pos c] at h1 h3
      exact ⟨3, _, _, _, h1, h3, h2, fun h => by omega⟩
    · rw [if_neg c] at h1 h3
      rw [if_pos rfl] at h3
      exact ⟨0, _, _, _, h1, h3, h2, fun _ => ⟨hA, rfl⟩⟩
  · have h3 := sys_ev s false o h2
    by_cases c : s.size > 24
    · rw [if_pos c] at h1 h3
      exact ⟨3, _, _, _, h1, h3, h2, fun h => by omega⟩
    · rw [if_neg c] at h1 h3
      rw [if_neg (by decide)] at h3
      exact ⟨5, _, _, _, h1, h3, h2, fun h => by omega⟩
/-- Roads, by the program and by the specification -/
theorem roads_law (s t : ByteArray) (hs : s.size ≤ 1000) (ht : t.size ≤ 1000) : ∃ r, Ev (fun k => plait_Roads.f k s t) r ∧ Ev (fun k => pomaderef07_Roads.f k s t) r := by
  obtain ⟨e, p, o, b, h1, h2, h3, h4⟩ := part_sys s hs
  obtain ⟨e', p', o', b', h1', h2', h3', h4'⟩ := part_sys t ht
  by_cases c : e = 0
  · subst c
    obtain ⟨hA, rfl⟩ := h4 rfl
    by_cases c' : e' = 0
    · subst c'
      obtain ⟨hA', rfl⟩ := h4' rfl
      have hl := hA.len
      have hl' := hA'.len
      by_cases d : s.size = t.size
      · obtain ⟨r, g1, g2⟩ := roads_both p p' s.size hs hl (by omega) hA.rng (by rw [d]; exact hA'.rng)
        refine ⟨(r, 0), ?_, ?_⟩
        · refine Ev.congr (fun k => rfl) (Ev.bind h1 (Ev.congr (fun k => by rw [if_pos rfl]) (Ev.bind h1' (Ev.congr (fun k => by rw [if_pos rfl, if_pos (show (p.length : Int) = (p'.length : Int) by omega)]) (Ev.bind g1 (Ev.now _))))))
        · refine Ev.congr (fun k => rfl) (Ev.bind h2 (Ev.congr (fun k => by rw [if_pos rfl]) (Ev.bind h2' ?_)))
          have e1 : ((s.size : Int) != (t.size : Int)) = false := by rw [d]; exact bne_self_eq_false ..
          refine Ev.step (fun k => ?_) (Ev.step (g := fun k => pomaderef07_Roads.j1 k s t 0 false) (fun k => ?_) (Ev.step (g := fun k => pomaderef07_Roads.j2 k s t 0) (f := fun k => (pomaderef07_partners.f k s).bind fun bt558 => (pomaderef07_partners.f k t).bind fun bt562 => (pomaderef07_roads.f k bt558.1 bt562.1).bind fun t566 => some (t566, 0)) (fun k => ?_) ?_))
          · simp only [pomaderef07_Roads.j0]; rw [if_pos trivial, e1]
          · simp only [pomaderef07_Roads.j1]; rw [if_neg (by decide)]
          · simp only [pomaderef07_Roads.j2]; rw [if_pos trivial]
          · refine Ev.bind h3 ?_
            refine Ev.bind h3' ?_
            exact Ev.bind g2 (Ev.now _)
      · refine ⟨(0, 2), ?_, ?_⟩
        · refine Ev.congr (fun k => rfl) (Ev.bind h1 (Ev.congr (fun k => by rw [if_pos rfl]) (Ev.bind h1' (Ev.congr (fun k => by rw [if_pos rfl, if_neg (show ¬ (p.length : Int) = (p'.length : Int) by omega)]) (Ev.now _)))))
        · refine Ev.congr (fun k => rfl) (Ev.bind h2 (Ev.congr (fun k => by rw [if_pos rfl]) (Ev.bind h2' ?_)))
          have e1 : ((s.size : Int) != (t.size : Int)) = true := bne_iff_ne.2 (by omega)
          refine Ev.step (fun k => ?_) (Ev.step (g := fun k => pomaderef07_Roads.j1 k s t 0 true) (fun k => ?_) (Ev.step (g := fun k => pomaderef07_Roads.j2 k s t 2) (fun k => ?_) (Ev.now _)))
          · simp only [pomaderef07_Roads.j0]; rw [if_pos trivial, e1]
          · simp only [pomaderef07_Roads.j1]; rw [if_pos trivial]
          · simp only [pomaderef07_Roads.j2]; rw [if_neg (by decide)]
    · refine ⟨(0, e'), ?_, ?_⟩
      · refine Ev.congr (fun k => rfl) (Ev.bind h1 (Ev.congr (fun k => by rw [if_pos rfl]) (Ev.bind h1' (Ev.congr (fun k => by rw [if_neg c']) (Ev.now _)))))
      · refine Ev.congr (fun k => rfl) (Ev.bind h2 (Ev.congr (fun k => by rw [if_pos rfl]) (Ev.bind h2' ?_)))
        refine Ev.step (fun k => ?_) (Ev.step (g := fun k => pomaderef07_Roads.j1 k s t e' false) (fun k => ?_) (Ev.step (g := fun k => pomaderef07_Roads.j2 k s t e') (fun k => ?_) (Ev.now _)))
        · simp only [pomaderef07_Roads.j0]; rw [if_neg c']
        · simp only [pomaderef07_Roads.j1]; rw [if_neg (by decide)]
        · simp only [pomaderef07_Roads.j2]; rw [if_neg c']
  · refine ⟨(0, e), ?_, ?_⟩
    · refine Ev.congr (fun k => rfl) (Ev.bind h1 (Ev.congr (fun k => by rw [if_neg c]) (Ev.now _)))
    · refine Ev.congr (fun k => rfl) (Ev.bind h2 (Ev.congr (fun k => by rw [if_neg c]) ?_))
      refine Ev.step (fun k => ?_) (Ev.step (g := fun k => pomaderef07_Roads.j1 k s t e false) (fun k => ?_) (Ev.step (g := fun k => pomaderef07_Roads.j2 k s t e) (fun k => ?_) (Ev.now _)))
      · simp only [pomaderef07_Roads.j0]; rw [if_neg c]
      · simp only [pomaderef07_Roads.j1]; rw [if_neg (by decide)]
      · simp only [pomaderef07_Roads.j2]; rw [if_neg c]
theorem PlaitRoads_pure : pomadelaw07_PlaitRoads.Pure := by
  intro a0 a1 w0 w1
  refine Ev.rounds (g := fun k => pomadelaw07_PlaitRoads.f k a0 a1) ?_
  have alive : ∀ b, b = true → Ev (fun k => pomadelaw07_PlaitRoads.j0 k a0 a1 b) true := fun b hb =>
    Ev.step (f := fun _ => some true) (fun k => by simp only [pomadelaw07_PlaitRoads.j0]; rw [if_pos hb]; rfl) (Ev.now _)
  by_cases c : a0.size > 50
  · refine Ev.congr (fun k => ?_) (alive true rfl)
    unfold pomadelaw07_PlaitRoads.f; rw [if_pos (by omega)]
  · by_cases c1 : a1.size > 50
    · refine Ev.congr (fun k => ?_) (alive (decide ((a1.size : Int) > 50)) (decide_eq_true (by omega)))
      unfold pomadelaw07_PlaitRoads.f; rw [if_neg (by omega)]
    · obtain ⟨r, h1, h2⟩ := roads_law a0 a1 (by omega) (by omega)
      obtain ⟨q, g1, g2⟩ := next_both a0 (by omega)
      have e1 : decide ((a1.size : Int) > 50) = false := decide_eq_false (by omega)
      have last : Ev (fun k => pomadelaw07_PlaitRoads.j1 k a0 false) true := by
        refine Ev.step (f := fun k => (plait_Next.f k a0).bind fun bt578 => (pomaderef07_Next.f k a0).bind fun bt580 => (if bt578.1.toList = bt580.1.toList then (if bt578.2 = bt580.2 then ((pomadelaw07_alive.f).bind fun t582 => (some t582)) else (some false)) else (some false))) (fun k => ?_) ?_
        · simp only [pomadelaw07_PlaitRoads.j1]; rw [if_neg (by decide)]
        · refine Ev.bind g1 ?_
          refine Ev.bind g2 ?_
          refine Ev.congr (f := fun _ => some true) (fun k => ?_) (Ev.now _)
          rw [if_pos rfl, if_pos rfl]; rfl
      refine Ev.congr (f := fun k => pomadelaw07_PlaitRoads.j0 k a0 a1 false) (fun k => ?_) (Ev.step (f := fun k => (plait_Roads.f k a0 a1).bind fun bt574 => (pomaderef07_Roads.f k a0 a1).bind fun bt576 => (if bt574.1 = bt576.1 then (pomadelaw07_PlaitRoads.j1 k a0 (bt574.2 != bt576.2)) else (pomadelaw07_PlaitRoads.j1 k a0 true))) (fun k => ?_) ?_)
      · unfold pomadelaw07_PlaitRoads.f; rw [if_neg (by omega), e1]
      · simp only [pomadelaw07_PlaitRoads.j0]; rw [if_neg (by decide)]
      · refine Ev.bind h1 ?_
        refine Ev.bind h2 ?_
        refine Ev.congr (fun k => ?_) last
        rw [if_pos rfl, show (r.2 != r.2) = false from bne_self_eq_false ..]
end Go.Proofs.Ytjfkompfkgjdaaa.L
namespace Go.Proofs.Ytjfkompfkgjdaaa.Pure
theorem PlaitRoads : Go.Proofs.Ytjfkompfkgjdaaa.PC.pomadelaw07_PlaitRoads.Pure := Go.Proofs.Ytjfkompfkgjdaaa.L.PlaitRoads_pure
end Go.Proofs.Ytjfkompfkgjdaaa.Pure
