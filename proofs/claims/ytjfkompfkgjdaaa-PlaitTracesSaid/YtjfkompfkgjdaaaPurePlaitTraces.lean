/- Plait: PlaitTraces: closed products, and the roads of two arch systems. -/
import Derived.Test.YtjfkompfkgjdaaaLTrace
import Derived.Test.YtjfkompfkgjdaaaPCf6
namespace Go.Proofs.Ytjfkompfkgjdaaa.L
open Go.RowKit Go.Proofs.Ytjfkompfkgjdaaa.PC Go.Proofs.YtjfkompfkgjdaaaW.PrintWords Go.Proofs.YtjfkompfkgjdaaaW.PrintLast Go.Proofs.Ytjfkompfkgjdaaa.G
theorem bytes_eq {s t : ByteArray} (hl : s.size = t.size) (h : ∀ j : Nat, j < s.size → bt s (j : Int) = bt t (j : Int)) : s.toList = t.toList := by
  rw [Go.ByteArray.toList_eq, Go.ByteArray.toList_eq]
  refine List.ext_getElem (by simpa using hl) (fun i h1 h2 => ?_)
  have h1' : i < s.size := by simpa using h1
  have h2' : i < t.size := by simpa using h2
  have e := h i h1'
  rw [← bt_at s (i : Int) (by simpa using h1'), ← bt_at t (i : Int) (by simpa using h2')] at e
  have e : ((s[i]'h1').toNat : Int) = ((t[i]'h2').toNat : Int) := e
  have e2 : (s[i]'h1') = (t[i]'h2') := UInt8.toNat_inj.1 (by omega)
  exact e2
theorem bytes_of {s t : ByteArray} (h : s.toList = t.toList) : s = t := by
  rw [Go.ByteArray.toList_eq, Go.ByteArray.toList_eq] at h
  exact ByteArray.ext (by simpa using h)
theorem cnt_pos {P : Nat → Prop} {N : Nat} (h0 : 0 < N) (h : P 0) : 1 ≤ cntP P N := by
  obtain ⟨k, rfl⟩ : ∃ k, N = k + 1 := ⟨N - 1, by omega⟩
  clear h0
  induction k with
  | zero => simp only [cntP]; rw [if_pos h]; omega
  | succ k ih => simp only [cntP] at ih ⊢; omega
/-- the roads of two strings, in both orders -/
theorem roads_two (s t : ByteArray) (hs : s.size ≤ 1000) (ht : t.size ≤ 1000) :
    (∃ e : Int, e ≠ 0 ∧ Ev (fun k => plait_Roads.f k s t) (0, e) ∧ ∃ r, Ev (fun k => plait_Roads.f k t s) r) ∨
    (∃ c : Nat, Ev (fun k => plait_Roads.f k s t) ((c : Int), 0) ∧ Ev (fun k => plait_Roads.f k t s) ((c : Int), 0) ∧ 1 ≤ c ∧ 2 * c ≤ s.size ∧ (2 * c = s.size ↔ s.toList = t.toList) ∧ s.size % 2 = 0) := by
  obtain ⟨e, p, o, b, h1, h2, h3, h4⟩ := part_sys s hs
  obtain ⟨e', p', o', b', h1', h2', h3', h4'⟩ := part_sys t ht
  have err : ∀ (x y : ByteArray) (e : Int) (p : List Int), e ≠ 0 → Ev (fun k => plait_partners.f k x) (p, e) → Ev (fun k => plait_Roads.f k x y) (0, e) := fun x y e p he h =>
    Ev.congr (fun k => rfl) (Ev.bind h (Ev.congr (fun k => by rw [if_neg he]) (Ev.now _)))
  have err2 : ∀ (x y : ByteArray) (e : Int) (p q : List Int), e ≠ 0 → Ev (fun k => plait_partners.f k x) (p, 0) → Ev (fun k => plait_partners.f k y) (q, e) → Ev (fun k => plait_Roads.f k x y) (0, e) := fun x y e p q he h h' =>
    Ev.congr (fun k => rfl) (Ev.bind h (Ev.congr (fun k => by rw [if_pos rfl]) (Ev.bind h' (Ev.congr (fun k => by rw [if_neg he]) (Ev.now _)))))
  by_cases z : e = 0
  · subst z
    by_cases z' : e' = 0
    · subst z'
      obtain ⟨hA, rfl⟩ := h4 rfl
      obtain ⟨hA', rfl⟩ := h4' rfl
      have l1 := hA.len
      have l2 := hA'.len
      have err3 : ∀ (x y : ByteArray) (p q : List Int), (p.length : Int) ≠ (q.length : Int) → Ev (fun k => plait_partners.f k x) (p, 0) → Ev (fun k => plait_partners.f k y) (q, 0) → Ev (fun k => plait_Roads.f k x y) (0, 2) := fun x y p q he h h' =>
        Ev.congr (fun k => rfl) (Ev.bind h (Ev.congr (fun k => by rw [if_pos rfl]) (Ev.bind h' (Ev.congr (fun k => by rw [if_pos rfl, if_neg he]) (Ev.now _)))))
      by_cases c : s.size = t.size
      · have ok : ∀ (x y : ByteArray) (p q : List Int) (v : Int), (p.length : Int) = (q.length : Int) → Ev (fun k => plait_partners.f k x) (p, 0) → Ev (fun k => plait_partners.f k y) (q, 0) → Ev (fun k => plait_roads.f k p q) v → Ev (fun k => plait_Roads.f k x y) (v, 0) := fun x y p q v he h h' g =>
          Ev.congr (fun k => rfl) (Ev.bind h (Ev.congr (fun k => by rw [if_pos rfl]) (Ev.bind h' (Ev.congr (fun k => by rw [if_pos rfl, if_pos he]) (Ev.bind g (Ev.now _))))))
        have hb : b = true := by
          rcases partners_both s hs with ⟨o2, _, _, g2⟩ | ⟨o2, g1, _⟩
          · exact congrArg Prod.snd (Ev.det h3 g2)
          · have := congrArg Prod.snd (Ev.det h1 g1)
            split at this
            · exact absurd (show (0 : Int) = 3 from this) (by decide)
            · exact absurd (show (0 : Int) = 5 from this) (by decide)
        have hb' : b' = true := by
          rcases partners_both t ht with ⟨o2, _, _, g2⟩ | ⟨o2, g1, _⟩
          · exact congrArg Prod.snd (Ev.det h3' g2)
          · have := congrArg Prod.snd (Ev.det h1' g1)
            split at this
            · exact absurd (show (0 : Int) = 3 from this) (by decide)
            · exact absurd (show (0 : Int) = 5 from this) (by decide)
        subst hb
        subst hb'
        obtain ⟨q1, s1⟩ := arch_pair hs h3
        obtain ⟨q2, s2⟩ := arch_pair ht h3'
        rw [← c] at q2 s2
        have v1 := roads_val hs q1 q2
        have v2 := roads_val hs q2 q1
        have sw : cntP (Fst (UN s.size) (fn p') (fn p)) s.size = cntP (Fst (UN s.size) (fn p) (fn p')) s.size := cntP_congr _ (fun i _ => fst_swap)
        rw [sw] at v2
        have hf := half q1.pair q2.pair
        have hp := hA.pos
        refine .inr ⟨cntP (Fst (UN s.size) (fn p) (fn p')) s.size, ok s t p p' _ (by omega) h1 h1' v1, ok t s p' p _ (by omega) h1' h1 v2, cnt_pos (by omega) ⟨by show 0 < s.size; omega, fun j hj => by omega⟩, hf.1, ?_, by have := hA.bal; omega⟩
        rw [show (2 * cntP (Fst (UN s.size) (fn p) (fn p')) s.size = s.size ↔ _) from hf.2]
        constructor
        · intro all
          refine bytes_eq c (fun j hj => ?_)
          have r1 := s1 j hj
          have r2 := s2 j hj
          have b1 := hA.br j hj
          have b2 := hA'.br j (by omega)
          rw [all j hj] at r1
          omega
        · intro e i _
          have := bytes_of e
          subst this
          have := congrArg Prod.fst (Ev.det h3 h3')
          rw [show p = p' from this]
      · exact .inl ⟨2, by decide, err3 s t p p' (by omega) h1 h1', _, err3 t s p' p (by omega) h1' h1⟩
    · exact .inl ⟨e', z', err2 s t e' p p' z' h1 h1', _, err t s e' p' z' h1'⟩
  · by_cases z' : e' = 0
    · subst z'; exact .inl ⟨e, z, err s t e p z h1, _, err2 t s e p' p z h1' h1⟩
    · exact .inl ⟨e, z, err s t e p z h1, _, err t s e' p' z' h1'⟩
theorem PlaitTraces_pure : pomadelaw07_PlaitTraces.Pure := by
  intro a b s t _ _ _ _ _ _ _ _
  refine Ev.rounds (g := fun k => pomadelaw07_PlaitTraces.f k a b s t) ?_
  have alive : ∀ x, x = true → Ev (fun k => pomadelaw07_PlaitTraces.j0 k a b s t x) true := fun x hx =>
    Ev.step (f := fun _ => some true) (fun k => by simp only [pomadelaw07_PlaitTraces.j0]; rw [if_pos hx]; rfl) (Ev.now _)
  have hfew : pomadelaw07_few.f a b = some (decide (a.length ≤ 50 ∧ b.length ≤ 50)) := by
    unfold pomadelaw07_few.f
    by_cases c1 : a.length ≤ 50
    · rw [if_pos (by omega)]; congr 1; rw [decide_eq_decide]; omega
    · rw [if_neg (by omega), decide_eq_false (by omega)]
  by_cases c1 : a.length ≤ 50 ∧ b.length ≤ 50
  · rw [decide_eq_true c1] at hfew
    by_cases c2 : (s.size : Int) > 50
    · refine Ev.congr (fun k => ?_) (alive true rfl)
      unfold pomadelaw07_PlaitTraces.f
      rw [hfew, Option.bind_some, if_pos rfl, if_pos c2]
    · by_cases c3 : (t.size : Int) > 50
      · refine Ev.congr (fun k => ?_) (alive (decide ((t.size : Int) > 50)) (decide_eq_true c3))
        unfold pomadelaw07_PlaitTraces.f
        rw [hfew, Option.bind_some, if_pos rfl, if_neg c2]
      · refine Ev.congr (f := fun k => pomadelaw07_PlaitTraces.j0 k a b s t false) (fun k => ?_) ?_
        · unfold pomadelaw07_PlaitTraces.f
          rw [hfew, Option.bind_some, if_pos rfl, if_neg c2, decide_eq_false c3]
        · have last : Ev (fun k => pomadelaw07_PlaitTraces.j1 k s t) true := by
            refine Ev.step (f := fun k => (plait_Roads.f k s t).bind fun bt862 => ((plait_Roads.f k t s).bind fun bt864 => (if bt862.2 = 0 then (if bt864.2 = 0 then (if bt862.1 = bt864.1 then (if bt862.1 ≥ 1 then (if bt862.1 ≤ (wrap64 ((s.size : Int) / 2)) then (if ((bt862.1 == (wrap64 ((s.size : Int) / 2))) == (s.toList == t.toList)) = true then ((pomadelaw07_alive.f).bind fun t866 => (some t866)) else (some false)) else (some false)) else (some false)) else (some false)) else (some false)) else (if bt862.1 = 0 then ((pomadelaw07_alive.f).bind fun t867 => (some t867)) else (some false))))) (fun k => by simp only [pomadelaw07_PlaitTraces.j1]) ?_
            rcases roads_two s t (by omega) (by omega) with ⟨e, he, g1, r, g2⟩ | ⟨c, g1, g2, q1, q2, q3, q4⟩
            · refine Ev.bind g1 ?_
              refine Ev.bind g2 ?_
              exact Ev.congr (f := fun _ => some true) (fun k => by rw [if_neg he, if_pos rfl]; rfl) (Ev.now _)
            · refine Ev.bind g1 ?_
              refine Ev.bind g2 ?_
              have ew : wrap64 ((s.size : Int) / 2) = ((s.size / 2 : Nat) : Int) := by rw [pw64 (by omega) (by omega)]; omega
              have eb : (((c : Int) == ((s.size / 2 : Nat) : Int)) == (s.toList == t.toList)) = true := by
                by_cases d : s.toList = t.toList
                · have := q3.2 d
                  rw [beq_iff_eq.2 (show (c : Int) = ((s.size / 2 : Nat) : Int) by omega), beq_iff_eq.2 d]; rfl
                · have : ¬ 2 * c = s.size := fun e => d (q3.1 e)
                  rw [beq_eq_false_iff_ne.2 (show (c : Int) ≠ ((s.size / 2 : Nat) : Int) by omega), beq_eq_false_iff_ne.2 d]; rfl
              exact Ev.congr (f := fun _ => some true) (fun k => by rw [if_pos rfl, if_pos rfl, if_pos rfl, if_pos (show (c : Int) ≥ 1 by omega), ew, if_pos (show (c : Int) ≤ ((s.size / 2 : Nat) : Int) by omega), if_pos eb]; rfl) (Ev.now _)
          refine Ev.step (f := fun k => (plait_Product.f k a b).bind fun bt848 => ((plait_Product.f k b a).bind fun bt853 => (if ((bt848.2.2 == 0) != (bt853.2.2 == 0)) = true then (some false) else (if bt848.2.2 = 0 then ((plait_Closed.f k bt848.1).bind fun bt858 => ((plait_Closed.f k bt853.1).bind fun bt860 => (if bt858.2 = 0 then (if bt860.2 = 0 then (if (wrap64 (bt858.1 + bt848.2.1)) = (wrap64 (bt860.1 + bt853.2.1)) then (if bt858.1 < 1 then (some false) else (if bt858.1 > (wrap64 ((a.length : Int) / 2)) then (some false) else (pomadelaw07_PlaitTraces.j1 k s t))) else (some false)) else (some false)) else (some false)))) else (pomadelaw07_PlaitTraces.j1 k s t))))) (fun k => by simp only [pomadelaw07_PlaitTraces.j0]; rw [if_neg (by decide)]) ?_
          obtain ⟨e1, e2, _, d1, _, d2, h⟩ := product_plait a b
          obtain ⟨f1, f2, _, k1, _, k2, h'⟩ := product_plait b a
          obtain rfl := Ev.det d1 k2
          obtain rfl := Ev.det d2 k1
          rcases h with ⟨z1, z2, hl, n, da, db, h⟩ | ⟨hn, he, h⟩
          · have hab := dia_prod da db
            have hba := dia_prod db da
            refine Ev.bind h ?_
            refine Ev.bind (product_yes db da) ?_
            refine Ev.congr (fun k => by rw [if_neg (by simp), if_pos rfl]) ?_
            refine Ev.bind (closed_val hab) ?_
            refine Ev.bind (closed_val hba) ?_
            refine Ev.congr (fun k => ?_) last
            have tr := cls_prod da.lm db.lm
            have rg := cls_rng da.pos hab.lm.mat
            have la := da.lm.len
            have ln := da.lim
            rw [if_pos rfl, if_pos rfl, if_pos (show wrap64 ((cls n (fn (prodL n a b)) : Int) + (lops n (fn a) (fn b) : Int)) = wrap64 ((cls n (fn (prodL n b a)) : Int) + (lops n (fn b) (fn a) : Int)) by congr 1; omega), if_neg (show ¬ (cls n (fn (prodL n a b)) : Int) < 1 by omega), pw64 (by omega) (by omega), if_neg (show ¬ (cls n (fn (prodL n a b)) : Int) > (a.length : Int) / 2 by omega)]
          · rcases h' with ⟨z1, z2, hl, _⟩ | ⟨hn', he', h'⟩
            · exact absurd ⟨z2, z1, hl.symm⟩ hn
            · refine Ev.bind h ?_
              refine Ev.bind h' ?_
              refine Ev.congr (fun k => ?_) last
              rw [if_neg (by rw [beq_eq_false_iff_ne.2 he, beq_eq_false_iff_ne.2 he']; decide), if_neg he]
  · refine Ev.congr (fun k => ?_) (alive true rfl)
    unfold pomadelaw07_PlaitTraces.f
    rw [hfew, Option.bind_some, if_neg (by rw [decide_eq_false c1]; decide)]
end Go.Proofs.Ytjfkompfkgjdaaa.L
namespace Go.Proofs.Ytjfkompfkgjdaaa.Pure
theorem PlaitTraces : Go.Proofs.Ytjfkompfkgjdaaa.PC.pomadelaw07_PlaitTraces.Pure := Go.Proofs.Ytjfkompfkgjdaaa.L.PlaitTraces_pure
end Go.Proofs.Ytjfkompfkgjdaaa.Pure
