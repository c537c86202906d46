/- Chairs: ChairsOutcome. -/
import Derived.Test.YtfopeenjpdaacaaLPark
import Derived.Test.YtfopeenjpdaacaaLWays
import Derived.Test.YtfopeenjpdaacaaPCf9
namespace Go.Proofs.Ytfopeenjpdaacaa.L
open Go.RowKit Go.Proofs.Ytfopeenjpdaacaa.PC Go.Proofs.YtfopeenjpdaacaaW.PrintWords Go.Proofs.YtfopeenjpdaacaaW.PrintLast Go.Proofs.Ytfopeenjpdaacaa.MPark
theorem moved_self_loop (ch : List Int) (hl : ch.length ≤ 1000000) (d : Nat) : ∀ q : Nat, q + d = ch.length →
    Ev (fun k => chairs_Moved.l0 k ch 0 (q : Int) ch (ch.length : Int) (q : Int)) (0, (ch.length : Int), 0) := by
  induction d with
  | zero =>
    intro q hq
    obtain rfl : q = ch.length := by omega
    refine Ev.step (f := fun _ => some (0, (ch.length : Int), 0)) (fun k => ?_) (Ev.now _)
    simp only [chairs_Moved.l0]; rw [if_neg (by omega)]
  | succ d ih =>
    intro q hq
    refine Ev.step (fun k => ?_) (ih (q + 1) (by omega))
    simp only [chairs_Moved.l0]
    rw [if_pos (by omega), if_pos (by omega), if_pos (by omega), if_pos (by omega), if_pos trivial, Int.sub_self, show wrap64 (0 + wrap64 0) = 0 by (rw [w64 (x := 0) (by omega) (by omega)]; exact w64 (by omega) (by omega)), w64 (x := (q : Int) + 1) (by omega) (by omega)]
    rfl
theorem moved_self (m : Int) (ch : List Int) (hl : ch.length ≤ 1000000) (hs : SitV m ch = (ch, 0)) : Ev (fun k => chairs_Moved.f k m ch) (0, (ch.length : Int), 0) := by
  refine Ev.bind (Sit_ev m ch) ?_
  rw [hs]
  exact Ev.congr (fun k => if_pos rfl) (moved_self_loop ch hl ch.length 0 (by omega))
/-- the chairs of good wishes: each one once; who wishes them gets them -/
structure Chs (n : Nat) (cs : List Nat) : Prop where
  len : cs.length = n
  lt : ∀ c ∈ cs, c < n
  nodup : cs.Nodup
  all : ∀ a, a < n → a ∈ cs
theorem chs_of {l : List Int} (h : Row (l.length : Int) l) (hg : (sitV (l.length : Int) l).2 = true) : ∃ cs : List Nat, Chs l.length cs ∧ (sitV (l.length : Int) l).1 = cs.map (fun c : Nat => (c : Int)) := by
  obtain ⟨S', cs, hP, e⟩ := sitV_park _ l h
  by_cases c : cs.all (fun c => decide ((c : Int) < (l.length : Int))) = true
  · rw [if_pos c] at e
    have hlt : ∀ x ∈ cs, x < l.length := fun x hx => by simpa using List.all_eq_true.1 c x hx
    have hlen : cs.length = l.length := by rw [hP.length, List.length_map]
    refine ⟨cs, ⟨hlen, hlt, hP.nodup, fun a ha => ?_⟩, by rw [e]⟩
    have e1 := hP.cnt l.length
    rw [cnt_no, countP_all.2 (fun x hx => by simpa using hlt x hx), hlen, Nat.zero_add] at e1
    exact (hP.mem a rfl).2 (cnt_full _ e1 a ha)
  · rw [if_neg c] at e
    rw [e] at hg
    cases hg
theorem sit_self {n : Nat} {cs : List Nat} (h : Chs n cs) (h1 : 1 ≤ n) (h30 : n ≤ 30) : SitV (n : Int) (cs.map (fun c : Nat => (c : Int))) = (cs.map (fun c : Nat => (c : Int)), 0) := by
  have hR : Row (n : Int) (cs.map (fun c : Nat => (c : Int))) := ⟨by omega, by omega, by rw [List.length_map, h.len]; omega, fun w hw => by
    obtain ⟨x, hx, rfl⟩ := List.mem_map.1 hw
    have := h.lt x hx
    omega⟩
  obtain ⟨S', ds, hP, e⟩ := sitV_park _ _ hR
  have em : (cs.map (fun c : Nat => (c : Int))).map Int.toNat = cs := by rw [List.map_map]; simp [Function.comp_def]
  rw [em] at hP
  obtain ⟨S1, hP1⟩ := Park.same (S := no) (cs := cs) (fun _ _ => rfl) h.nodup
  have e5 := (hP.uniq hP1).2
  rw [e5] at e
  have hall : cs.all (fun c => decide ((c : Int) < (n : Int))) = true := List.all_eq_true.2 fun x hx => by simpa using h.lt x hx
  rw [if_pos hall] at e
  unfold SitV
  rw [if_pos ((row_iff _ _).2 hR), e]
  rfl
/-- the order in which the customers sit in the chairs -/
structure Ord (n : Nat) (cs : List Nat) (q : Nat) (O : List Int) : Prop where
  len : O.length = n
  at_ : ∀ i, i < q → rd O (cs.getD i 0 : Nat) = (i : Int)
theorem ord_perm {n : Nat} {cs : List Nat} {O : List Int} (h : Chs n cs) (ho : Ord n cs n O) : Perm0 O := by
  have key : ∀ a, a < n → ∃ i, i < n ∧ cs.getD i 0 = a ∧ rd O (a : Int) = (i : Int) := fun a ha => by
    obtain ⟨i, hi, e⟩ := List.getElem_of_mem (h.all a ha)
    have hi' : i < n := by rw [← h.len]; exact hi
    have e2 : cs.getD i 0 = a := by simp [List.getD_eq_getElem?_getD, hi, e]
    refine ⟨i, hi', e2, ?_⟩
    have := ho.at_ i hi'
    rwa [e2] at this
  refine ⟨fun v hv => ?_, ?_⟩
  · obtain ⟨a, ha, e⟩ := List.getElem_of_mem hv
    obtain ⟨i, hi, _, e2⟩ := key a (by rw [← ho.len]; exact ha)
    have e3 : rd O (a : Int) = v := by simp [rd, List.getD_eq_getElem?_getD, ha, e]
    rw [ho.len]
    omega
  · rw [List.nodup_iff_pairwise_ne, List.pairwise_iff_getElem]
    intro a b ha hb hab e
    obtain ⟨i, hi, e1, e2⟩ := key a (by rw [← ho.len]; exact ha)
    obtain ⟨j, hj, e3, e4⟩ := key b (by rw [← ho.len]; exact hb)
    have e5 : rd O (a : Int) = O[a] := by simp [rd, List.getD_eq_getElem?_getD, ha]
    have e6 : rd O (b : Int) = O[b] := by simp [rd, List.getD_eq_getElem?_getD, hb]
    have : i = j := by omega
    subst this
    omega
theorem outcome_loop (l : List Int) (n : Nat) (hn : l.length = n) (h1 : 1 ≤ n) (h16 : n ≤ 16) (cs : List Nat) (h : Chs n cs) (d : Nat) : ∀ (q : Nat) (O : List Int), q + d = n → Ord n cs q O →
    Ev (fun k => pomadelaw03_ChairsOutcome.l0 k l (cs.map (fun c : Nat => (c : Int))) O (q : Int)) true := by
  have hlen : (cs.map (fun c : Nat => (c : Int))).length = n := by rw [List.length_map, h.len]
  induction d with
  | zero =>
    intro q O hq ho
    obtain rfl : q = n := by omega
    obtain ⟨r, w1, _, w3⟩ := ways_both O (by have := ho.len; omega)
    obtain ⟨r0, r1⟩ := w3 (by rw [ho.len]; exact h1) (by rw [ho.len]; exact h16) (ord_perm h ho)
    have hs := sit_self h h1 (by omega)
    refine Ev.step (f := fun k => (chairs_Ways.f k O).bind fun bt550 => ((chairs_Sit.f k (l.length : Int) (cs.map (fun c : Nat => (c : Int)))).bind fun bt552 => ((chairs_Moved.f k (l.length : Int) (cs.map (fun c : Nat => (c : Int)))).bind fun bt556 => (if bt550.2 = 0 then (if bt550.1 ≥ 1 then (if bt552.2 = 0 then ((pomadelaw03_same.f k bt552.1 (cs.map (fun c : Nat => (c : Int)))).bind fun t559 => (if t559 = true then (if bt556.2.2 = 0 then (if bt556.1 = 0 then (if bt556.2.1 = (l.length : Int) then ((pomadelaw03_alive.f).bind fun t560 => (some t560)) else (some false)) else (some false)) else (some false)) else (some false))) else (some false)) else (some false)) else (some false))))) (fun k => ?_) ?_
    · simp only [pomadelaw03_ChairsOutcome.l0]
      rw [if_neg (by omega)]
    rw [hn]
    refine Ev.bind w1 (Ev.bind (Sit_ev _ _) ?_)
    rw [hs]
    refine Ev.bind (moved_self _ _ (by omega) hs) ?_
    refine Ev.congr (fun k => by rw [if_pos r0, if_pos (by omega), if_pos rfl]) ?_
    refine Ev.bind (same_ev (cs.map (fun c : Nat => (c : Int))) (by omega)) ?_
    refine Ev.congr (fun k => ?_) (Ev.now true)
    rw [if_pos rfl, if_pos rfl, if_pos rfl, if_pos (by rw [hlen])]
    rfl
  | succ d ih =>
    intro q O hq ho
    have hql : q < cs.length := by rw [h.len]; omega
    obtain ⟨c, hc⟩ : ∃ c, cs.getD q 0 = c := ⟨_, rfl⟩
    have hrc : rd (cs.map (fun c : Nat => (c : Int))) (q : Int) = (c : Int) := by
      rw [← hc]; simp [rd, List.getD_eq_getElem?_getD, hql]
    have hcm : c ∈ cs := by rw [← hc]; simp [List.getD_eq_getElem?_getD, hql]
    have hcn := h.lt c hcm
    have hol := ho.len
    refine Ev.step (fun k => ?_) (ih (q + 1) (O.set c (q : Int)) (by omega) ⟨by rw [List.length_set]; exact ho.len, fun i hi => ?_⟩)
    · simp only [pomadelaw03_ChairsOutcome.l0]
      rw [if_pos (by omega), if_pos (by omega), hrc, if_neg (by omega), if_neg (by omega), if_pos (by omega), if_pos (by omega), Int.toNat_natCast, w64 (by omega) (by omega)]
      rfl
    · by_cases e : i = q
      · subst e
        rw [hc]
        simp [rd, List.getD_eq_getElem?_getD, show c < O.length by omega]
      · have hne : cs.getD i 0 ≠ c := fun e2 => by
          rw [← hc] at e2
          have hil : i < cs.length := by omega
          simp only [List.getD_eq_getElem?_getD, List.getElem?_eq_getElem hil, List.getElem?_eq_getElem hql, Option.getD_some] at e2
          exact e ((List.getElem_inj h.nodup).1 e2)
        have := ho.at_ i (by omega)
        obtain ⟨a, ha⟩ : ∃ a, cs.getD i 0 = a := ⟨_, rfl⟩
        rw [ha] at this hne ⊢
        rw [← this]
        simp only [rd, Int.toNat_natCast, List.getD_eq_getElem?_getD]
        rw [List.getElem?_set_ne (Ne.symm hne)]
theorem ChairsOutcome_pure : pomadelaw03_ChairsOutcome.Pure := by
  intro l _ _ _
  refine Ev.rounds ?_
  by_cases c : (l.length : Int) > 16
  · refine Ev.congr (fun k => by unfold pomadelaw03_ChairsOutcome.f; rw [if_pos c]) ?_
    refine Ev.step (f := fun _ => some true) (fun k => ?_) (Ev.now _)
    simp only [pomadelaw03_ChairsOutcome.j0]; rfl
  refine Ev.congr (fun k => by unfold pomadelaw03_ChairsOutcome.f; rw [if_neg c]) ?_
  refine Ev.bind (whole_ev l (by omega)) ?_
  by_cases hw : (if l.length = 0 ∨ l.length > 30 then 3 else rowV (l.length : Int) l) = 0
  · rw [hw]
    have hrow : Row (l.length : Int) l := by
      by_cases c2 : l.length = 0 ∨ l.length > 30
      · rw [if_pos c2] at hw; cases hw
      · rw [if_neg c2] at hw; exact (row_iff _ _).1 hw
    have h1 := hrow.m1
    refine Ev.step (f := fun k => (chairs_Sit.f k (l.length : Int) l).bind fun bt538 => (if bt538.2 = 0 then (if 0 ≤ (l.length : Int) then (if ((l.length : Int) : Int).toNat ≤ 35184372088832 then (if (bt538.1.length : Int) = (l.length : Int) then (pomadelaw03_ChairsOutcome.l0 k l bt538.1 (List.replicate ((l.length : Int) : Int).toNat 0) 0) else (some false)) else (none)) else (none)) else (if bt538.2 = 10 then (if (bt538.1.length : Int) = 0 then ((pomadelaw03_alive.f).bind fun t542 => (some t542)) else (some false)) else (some false)))) (fun k => ?_) ?_
    · simp only [pomadelaw03_ChairsOutcome.j0]
      rw [if_neg (by decide)]
    refine Ev.bind (Sit_ev _ l) ?_
    have hS : SitV (l.length : Int) l = if (sitV (l.length : Int) l).2 = true then ((sitV (l.length : Int) l).1, 0) else ([], 10) := by
      unfold SitV; rw [if_pos ((row_iff _ l).2 hrow)]
    rw [hS]
    by_cases hg : (sitV (l.length : Int) l).2 = true
    · rw [if_pos hg]
      obtain ⟨cs, hcs, e⟩ := chs_of hrow hg
      rw [e]
      refine Ev.congr (fun k => by rw [if_pos rfl, if_pos (by omega), if_pos (by omega), if_pos (by rw [List.length_map, hcs.len]), Int.toNat_natCast]) ?_
      exact outcome_loop l l.length rfl (by omega) (by omega) cs hcs l.length 0 _ (by omega) ⟨by simp, fun i hi => by omega⟩
    · rw [if_neg hg]
      exact Ev.congr (fun k => by rw [if_neg (by decide), if_pos rfl]; rfl) (Ev.now true)
  · refine Ev.step (f := fun _ => some true) (fun k => ?_) (Ev.now _)
    simp only [pomadelaw03_ChairsOutcome.j0]
    rw [if_pos (bne_iff_ne.2 hw)]; rfl
end Go.Proofs.Ytfopeenjpdaacaa.L
namespace Go.Proofs.Ytfopeenjpdaacaa.Pure
theorem ChairsOutcome : Go.Proofs.Ytfopeenjpdaacaa.PC.pomadelaw03_ChairsOutcome.Pure := Go.Proofs.Ytfopeenjpdaacaa.L.ChairsOutcome_pure
end Go.Proofs.Ytfopeenjpdaacaa.Pure
