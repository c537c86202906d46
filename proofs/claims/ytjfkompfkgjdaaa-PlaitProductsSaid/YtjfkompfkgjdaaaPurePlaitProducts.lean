/- Plait: PlaitProducts: Is and Product return what the specification returns. -/
import Derived.Test.YtjfkompfkgjdaaaLSame
import Derived.Test.YtjfkompfkgjdaaaPCg2
import Derived.Test.YtjfkompfkgjdaaaPCg3
import Derived.Test.YtjfkompfkgjdaaaPCf7
namespace Go.Proofs.Ytjfkompfkgjdaaa.L
open Go.RowKit Go.Proofs.Ytjfkompfkgjdaaa.PC Go.Proofs.YtjfkompfkgjdaaaW.PrintWords Go.Proofs.YtjfkompfkgjdaaaW.PrintLast Go.Proofs.Ytjfkompfkgjdaaa.G
theorem is_both (l : List Int) : ∃ r, Ev (fun k => plait_Is.f k l) r ∧ Ev (fun k => pomaderef07_Is.f k l) r := by
  obtain ⟨e, h1, h2, h3⟩ := dia_both l
  rcases h3 with ⟨rfl, h3⟩ | h3
  · exact ⟨(false, 3), Ev.congr (fun k => rfl) (Ev.bind h1 (Ev.congr (fun k => by rw [if_pos rfl]) (Ev.now _))), Ev.congr (fun k => by unfold pomaderef07_Is.f; rw [if_pos (by omega)]) (Ev.now _)⟩
  · have hl : l.length ≤ 20 ∧ e ≠ 3 := by
      rcases h3 with h3 | ⟨h, n, d, _⟩
      · omega
      · have := d.lm.len
        have := d.lim
        omega
    exact ⟨(e == 0, 0), Ev.congr (fun k => rfl) (Ev.bind h1 (Ev.congr (fun k => by rw [if_neg hl.2]) (Ev.now _))), Ev.congr (fun k => by unfold pomaderef07_Is.f; rw [if_neg (by omega)]) (Ev.bind h2 (Ev.now _))⟩
theorem PlaitProducts_pure : pomadelaw07_PlaitProducts.Pure := by
  intro a b la _ _ lb _ _
  refine Ev.rounds (g := fun k => pomadelaw07_PlaitProducts.f k a b) ?_
  by_cases c : a.length ≤ 50 ∧ b.length ≤ 50
  · obtain ⟨r, i1, i2⟩ := is_both a
    have last : Ev (fun k => pomadelaw07_PlaitProducts.j0 k a b a b false) true := by
      have hp : ∃ (p : List Int × Int × Int), p.1.length ≤ 1000000 ∧ Ev (fun k => plait_Product.f k a b) p ∧ Ev (fun k => pomaderef07_Product.f k a b) p := by
        obtain ⟨_, _, _, _, _, _, h⟩ := product_both a b
        rcases h with ⟨_, _, _, n, d, _, h1, h2⟩ | ⟨_, e, _, h1, h2⟩
        · exact ⟨_, by have := d.lim; rw [prodL_len]; omega, h1, h2⟩
        · exact ⟨_, by simp, h1, h2⟩
      obtain ⟨p, hl, h1, h2⟩ := hp
      refine Ev.step (f := fun k => (plait_Product.f k a b).bind fun bt322 => ((pomaderef07_Product.f k a b).bind fun bt327 => ((pomadelaw07_same.f k bt322.1 bt327.1).bind fun t332 => (if t332 = true then (if bt322.2.1 = bt327.2.1 then (if bt322.2.2 = bt327.2.2 then ((pomadelaw07_same.f k a a).bind fun t333 => (if t333 = true then ((pomadelaw07_same.f k b b).bind fun t334 => (if t334 = true then ((pomadelaw07_alive.f).bind fun t335 => (some t335)) else (some false))) else (some false))) else (some false)) else (some false)) else (some false))))) (fun k => ?_) ?_
      · simp only [pomadelaw07_PlaitProducts.j0]; rw [if_neg (by decide)]
      · refine Ev.bind h1 ?_
        refine Ev.bind h2 ?_
        refine Ev.bind (same_ev hl) ?_
        refine Ev.congr (fun k => by rw [if_pos rfl, if_pos rfl, if_pos rfl]) ?_
        refine Ev.bind (same_ev (by omega)) ?_
        refine Ev.congr (fun k => by rw [if_pos rfl]) ?_
        refine Ev.bind (same_ev (by omega)) ?_
        exact Ev.congr (f := fun _ => some true) (fun k => by rw [if_pos rfl]; rfl) (Ev.now _)
    refine Ev.congr (f := fun k => (plait_Is.f k a).bind fun bt318 => ((pomaderef07_Is.f k a).bind fun bt320 => (if (bt318.1 != bt320.1) = true then (pomadelaw07_PlaitProducts.j0 k a b a b true) else (pomadelaw07_PlaitProducts.j0 k a b a b (bt318.2 != bt320.2))))) (fun k => ?_) ?_
    · unfold pomadelaw07_PlaitProducts.f pomadelaw07_few.f
      rw [if_pos (by omega), Option.bind_some, if_pos (decide_eq_true (by omega)), Option.bind_some, if_pos (by simp; omega), Option.bind_some, Option.bind_some, if_pos (by simp; omega), Option.bind_some]
      rfl
    · refine Ev.bind i1 ?_
      refine Ev.bind i2 ?_
      refine Ev.congr (fun k => ?_) last
      rw [if_neg (by rw [bne_self_eq_false']; decide), show (r.2 != r.2) = false from bne_self_eq_false ..]
  · refine Ev.congr (f := fun _ => some true) (fun k => ?_) (Ev.now _)
    unfold pomadelaw07_PlaitProducts.f pomadelaw07_few.f
    by_cases c1 : a.length ≤ 50
    · rw [if_pos (by omega), Option.bind_some, if_neg (by rw [decide_eq_false (by omega)]; decide)]; rfl
    · rw [if_neg (by omega), Option.bind_some, if_neg (by decide)]; rfl
end Go.Proofs.Ytjfkompfkgjdaaa.L
namespace Go.Proofs.Ytjfkompfkgjdaaa.Pure
theorem PlaitProducts : Go.Proofs.Ytjfkompfkgjdaaa.PC.pomadelaw07_PlaitProducts.Pure := Go.Proofs.Ytjfkompfkgjdaaa.L.PlaitProducts_pure
end Go.Proofs.Ytjfkompfkgjdaaa.Pure
