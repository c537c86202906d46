/- Plait: PlaitAssociates: products in a row, and the identity. -/
import Derived.Test.YtjfkompfkgjdaaaLAssoc
import Derived.Test.YtjfkompfkgjdaaaPCf5
namespace Go.Proofs.Ytjfkompfkgjdaaa.L
open Go.RowKit Go.Proofs.Ytjfkompfkgjdaaa.PC Go.Proofs.YtjfkompfkgjdaaaW.PrintWords Go.Proofs.YtjfkompfkgjdaaaW.PrintLast Go.Proofs.Ytjfkompfkgjdaaa.G
theorem PlaitAssociates_pure : pomadelaw07_PlaitAssociates.Pure := by
  intro a b c _ _ _ _ _ _ _ _ _
  refine Ev.rounds (g := fun k => pomadelaw07_PlaitAssociates.f k a b c) ?_
  have alive : ∀ x, x = true → Ev (fun k => pomadelaw07_PlaitAssociates.j0 k a b c x) true := fun x hx =>
    Ev.step (f := fun _ => some true) (fun k => by simp only [pomadelaw07_PlaitAssociates.j0]; rw [if_pos hx]; rfl) (Ev.now _)
  have hfew : pomadelaw07_few.f a b = some (decide (a.length ≤ 50 ∧ b.length ≤ 50)) := by
    unfold pomadelaw07_few.f
    by_cases c1 : a.length ≤ 50
    · rw [if_pos (by omega)]; congr 1; rw [decide_eq_decide]; omega
    · rw [if_neg (by omega), decide_eq_false (by omega)]
  by_cases c1 : a.length ≤ 50 ∧ b.length ≤ 50
  · rw [decide_eq_true c1] at hfew
    by_cases c2 : (c.length : Int) > 50
    · refine Ev.congr (fun k => ?_) (alive true rfl)
      unfold pomadelaw07_PlaitAssociates.f
      rw [hfew, Option.bind_some, if_pos rfl, if_pos c2]
    · obtain ⟨e1, _, d1, _⟩ := dia_both a
      obtain ⟨e2, _, d2, _⟩ := dia_both b
      obtain ⟨e3, _, d3, _⟩ := dia_both c
      have start : Ev (fun k => (pomaderef07_Diagram.f k a).bind fun t654 => (if t654 = 0 then ((pomaderef07_Diagram.f k b).bind fun t655 => (if t655 = 0 then ((pomaderef07_Diagram.f k c).bind fun t656 => (pomadelaw07_PlaitAssociates.j0 k a b c (t656 != 0))) else (pomadelaw07_PlaitAssociates.j0 k a b c true))) else (pomadelaw07_PlaitAssociates.j0 k a b c true))) true → Ev (fun k => pomadelaw07_PlaitAssociates.f k a b c) true := fun h => by
        refine Ev.congr (fun k => ?_) h
        unfold pomadelaw07_PlaitAssociates.f
        rw [hfew, Option.bind_some, if_pos rfl, if_neg c2]
      apply start
      refine Ev.bind d1 ?_
      by_cases z1 : e1 = 0
      · refine Ev.congr (fun k => by rw [if_pos z1]) (Ev.bind d2 ?_)
        by_cases z2 : e2 = 0
        · refine Ev.congr (fun k => by rw [if_pos z2]) (Ev.bind d3 ?_)
          by_cases z3 : e3 = 0
          · subst z1; subst z2; subst z3
            obtain ⟨n, da⟩ := dia_of d1
            obtain ⟨m, db⟩ := dia_of d2
            obtain ⟨l, dc⟩ := dia_of d3
            have la := da.lm.len
            have lb := db.lm.len
            have lc := dc.lm.len
            refine Ev.step (f := fun k => (plait_Product.f k a b).bind fun bt658 => ((plait_Product.f k b c).bind fun bt663 => (if (a.length : Int) = (b.length : Int) then (pomadelaw07_PlaitAssociates.j1 k a b c bt658.1 bt658.2.1 bt658.2.2 bt663.1 bt663.2.1 bt663.2.2 ((b.length : Int) != (c.length : Int))) else (pomadelaw07_PlaitAssociates.j1 k a b c bt658.1 bt658.2.1 bt658.2.2 bt663.1 bt663.2.1 bt663.2.2 true)))) (fun k => by simp only [pomadelaw07_PlaitAssociates.j0]; rw [if_neg (by decide)]) ?_
            -- the errors of both products
            have pe : ∀ (n m : Nat) (x y : List Int), Dia n x → Dia m y → ∃ r : List Int × Int × Int, Ev (fun k => plait_Product.f k x y) r ∧ (r.2.2 == 0) = ((x.length : Int) == (y.length : Int)) := fun n m x y hx hy => by
              by_cases q : x.length = y.length
              · obtain rfl : n = m := by have := hx.lm.len; have := hy.lm.len; omega
                exact ⟨_, product_yes hx hy, by rw [q]; simp⟩
              · obtain ⟨e, he, h⟩ := product_no hx hy q
                exact ⟨_, h, by rw [beq_eq_false_iff_ne.2 he, beq_eq_false_iff_ne.2 (by omega)]⟩
            by_cases same : a.length = b.length ∧ b.length = c.length
            · obtain rfl : m = n := by omega
              obtain rfl : l = m := by omega
              have hp := dia_prod da db
              have hq := dia_prod db dc
              have hass := prodL_assoc da.lm db.lm dc.lm
              refine Ev.bind (product_yes da db) (Ev.bind (product_yes db dc) ?_)
              have hn := da.lim
              have k1 := lops_le da.lm.mat db.lm.mat
              have k2 := lops_le db.lm.mat dc.lm.mat
              have k3 := lops_le hp.lm.mat dc.lm.mat
              have k4 := lops_le da.lm.mat hq.lm.mat
              have lst : Ev (fun k => pomadelaw07_PlaitAssociates.j2 k a false) true := by
                have hi := idL_dia da.pos da.lim
                have pid := prodL_id da.lm
                refine Ev.step (f := fun k => (pomaderef07_Identity.f k (l : Int)).bind fun t680 => ((plait_Product.f k a t680).bind fun bt683 => ((plait_Product.f k t680 a).bind fun bt688 => (if bt683.2.2 = 0 then (if bt688.2.2 = 0 then ((pomadelaw07_same.f k bt683.1 a).bind fun t693 => (if t693 = true then ((pomadelaw07_same.f k bt688.1 a).bind fun t694 => (if t694 = true then (if (wrap64 (bt683.2.1 + bt688.2.1)) = 0 then ((pomadelaw07_alive.f).bind fun t695 => (some t695)) else (some false)) else (some false))) else (some false))) else (some false)) else (some false))))) (fun k => ?_) ?_
                · simp only [pomadelaw07_PlaitAssociates.j2]
                  rw [if_neg (by decide), pw64 (x := (a.length : Int) / 2) (by omega) (by omega), show (a.length : Int) / 2 = (l : Int) by omega]
                · refine Ev.bind (refidentity_ev (by omega)) ?_
                  refine Ev.bind (product_yes da hi) ?_
                  refine Ev.bind (product_yes hi da) ?_
                  refine Ev.congr (fun k => by rw [if_pos rfl, if_pos rfl, pid.1, pid.2.1]) ?_
                  refine Ev.bind (same_ev (show a.length ≤ 1000000 by omega)) ?_
                  refine Ev.congr (fun k => by rw [if_pos rfl]) ?_
                  refine Ev.bind (same_ev (show a.length ≤ 1000000 by omega)) ?_
                  exact Ev.congr (f := fun _ => some true) (fun k => by rw [if_pos rfl, pid.2.2.1, pid.2.2.2, if_pos (show wrap64 (((0 : Nat) : Int) + ((0 : Nat) : Int)) = 0 from pw64 (by decide) (by decide))]; rfl) (Ev.now _)
              refine Ev.congr (f := fun k => pomadelaw07_PlaitAssociates.j1 k a b c (prodL l a b) (lops l (fn a) (fn b) : Int) 0 (prodL l b c) (lops l (fn b) (fn c) : Int) 0 false) (fun k => ?_) ?_
              · rw [if_pos (by omega)]
                congr 1
                rw [same.2]; exact bne_self_eq_false ..
              · refine Ev.step (f := fun k => (plait_Product.f k (prodL l a b) c).bind fun bt669 => ((plait_Product.f k a (prodL l b c)).bind fun bt674 => (if bt669.2.2 = 0 then (if bt674.2.2 = 0 then ((pomadelaw07_same.f k bt669.1 bt674.1).bind fun t679 => (if t679 = true then (pomadelaw07_PlaitAssociates.j2 k a ((wrap64 ((lops l (fn a) (fn b) : Int) + bt669.2.1)) != (wrap64 ((lops l (fn b) (fn c) : Int) + bt674.2.1)))) else (pomadelaw07_PlaitAssociates.j2 k a true))) else (pomadelaw07_PlaitAssociates.j2 k a true)) else (pomadelaw07_PlaitAssociates.j2 k a true)))) (fun k => ?_) ?_
                · simp only [pomadelaw07_PlaitAssociates.j1]
                  rw [if_neg (by decide)]
                  rfl
                · refine Ev.bind (product_yes hp dc) ?_
                  refine Ev.bind (product_yes da hq) ?_
                  refine Ev.congr (fun k => by rw [if_pos rfl, if_pos rfl, hass.1]) ?_
                  refine Ev.bind (same_ev (by rw [prodL_len]; omega)) ?_
                  refine Ev.congr (fun k => ?_) lst
                  rw [if_pos rfl]
                  congr 1
                  rw [show (lops l (fn a) (fn b) : Int) + (lops l (fn (prodL l a b)) (fn c) : Int) = (lops l (fn b) (fn c) : Int) + (lops l (fn a) (fn (prodL l b c)) : Int) by have := hass.2; omega]
                  exact bne_self_eq_false ..
            · obtain ⟨r, h1, q1⟩ := pe _ _ a b da db
              obtain ⟨s, h2, q2⟩ := pe _ _ b c db dc
              refine Ev.bind h1 (Ev.bind h2 ?_)
              have fin : Ev (fun k => pomadelaw07_PlaitAssociates.j1 k a b c r.1 r.2.1 r.2.2 s.1 s.2.1 s.2.2 true) true := by
                refine Ev.step (f := fun _ => some true) (fun k => ?_) (Ev.now _)
                simp only [pomadelaw07_PlaitAssociates.j1]
                rw [if_pos trivial, if_pos (by rw [q1]; simp), if_pos (by rw [q2]; simp)]
                rfl
              by_cases z : (a.length : Int) = (b.length : Int)
              · refine Ev.congr (fun k => ?_) fin
                rw [if_pos z]
                congr 1
                exact bne_iff_ne.2 (by omega)
              · exact Ev.congr (fun k => by rw [if_neg z]) fin
          · exact alive _ (bne_iff_ne.2 z3)
        · exact Ev.congr (fun k => by rw [if_neg z2]) (alive true rfl)
      · exact Ev.congr (fun k => by rw [if_neg z1]) (alive true rfl)
  · refine Ev.congr (fun k => ?_) (alive true rfl)
    unfold pomadelaw07_PlaitAssociates.f
    rw [hfew, Option.bind_some, if_neg (by rw [decide_eq_false c1]; decide)]
end Go.Proofs.Ytjfkompfkgjdaaa.L
namespace Go.Proofs.Ytjfkompfkgjdaaa.Pure
theorem PlaitAssociates : Go.Proofs.Ytjfkompfkgjdaaa.PC.pomadelaw07_PlaitAssociates.Pure := Go.Proofs.Ytjfkompfkgjdaaa.L.PlaitAssociates_pure
end Go.Proofs.Ytjfkompfkgjdaaa.Pure
