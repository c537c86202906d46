/- Coin systems: Both, by the program (a queue that is eaten) and by the specification (a queue that is kept). -/
import Derived.Test.YtgbalmjnjpfopaaLBase
import Derived.Test.YtgbalmjnjpfopaaPCg2
import Derived.Test.YtgbalmjnjpfopaaPCf29
namespace Go.Proofs.Ytgbalmjnjpfopaa.L
open Go.RowKit Go.Proofs.Ytgbalmjnjpfopaa.PC Go.Proofs.YtgbalmjnjpfopaaW.PrintWords Go.Proofs.YtgbalmjnjpfopaaW.PrintLast Go.Proofs.YtgbalmjnjpfopaaW.PrintMore

abbrev St := List Int × List Int
/-- the places not reached yet -/
def U (d : List Int) : Nat := d.countP (fun y => decide (y < 0))
/-- one neighbour -/
def vis (x : Int) (s : St) (j : Int) : St := if 0 ≤ j ∧ j < (s.1.length : Int) ∧ rd s.1 j < 0 then (s.1.set j.toNat (rd s.1 x + 1), s.2 ++ [j]) else s
/-- the neighbours along one coin -/
def vv (x : Int) (s : St) (v : Int) : St := vis x (vis x s (x - v)) (x + v)
/-- all neighbours -/
def nd (x : Int) (l : List Int) (s : St) : St := l.foldl (vv x) s

structure Inv (n c x : Int) (s : St) : Prop where
  len : (s.1.length : Int) = n
  lo : ∀ y ∈ s.1, -1 ≤ y
  hi : ∀ y ∈ s.1, y + (U s.1 : Int) + 1 ≤ n
  inq : ∀ i ∈ s.2, 0 ≤ i ∧ i < n ∧ 0 ≤ rd s.1 i
  cnt : c + (s.2.length : Int) + (U s.1 : Int) = n
  x0 : 0 ≤ x
  x1 : x < n
  xv : 0 ≤ rd s.1 x
/-- what only grows -/
structure Ext (s s' : St) : Prop where
  keep : ∀ j, 0 ≤ rd s.1 j → rd s'.1 j = rd s.1 j
  qs : ∃ e, s'.2 = s.2 ++ e
  new : ∀ j, 0 ≤ j → j < (s.1.length : Int) → 0 ≤ rd s'.1 j → 0 ≤ rd s.1 j ∨ j ∈ s'.2
  len : s'.1.length = s.1.length
  meas : s'.2.length + U s'.1 = s.2.length + U s.1
theorem Ext.refl (s : St) : Ext s s := ⟨fun _ _ => rfl, ⟨[], by simp⟩, fun _ _ _ h => .inl h, rfl, rfl⟩
theorem Ext.sub {s s' : St} (h : Ext s s') {i : Int} (hi : i ∈ s.2) : i ∈ s'.2 := by
  obtain ⟨e, he⟩ := h.qs
  rw [he]; exact List.mem_append_left _ hi
theorem Ext.trans {s s' s'' : St} (h : Ext s s') (k : Ext s' s'') : Ext s s'' := by
  refine ⟨fun j hj => ?_, ?_, fun j j0 j1 hj => ?_, k.len.trans h.len, k.meas.trans h.meas⟩
  · have := h.keep j hj
    rw [k.keep j (by omega), this]
  · obtain ⟨e, he⟩ := h.qs
    obtain ⟨e', he'⟩ := k.qs
    exact ⟨e ++ e', by rw [he', he, List.append_assoc]⟩
  · rcases k.new j j0 (by rw [h.len]; exact j1) hj with g | g
    · rcases h.new j j0 j1 g with g | g
      · exact .inl g
      · exact .inr (k.sub g)
    · exact .inr g
theorem rd_set (d : List Int) (j v i : Int) (h0 : 0 ≤ j) (h1 : j < d.length) (hi : 0 ≤ i) : rd (d.set j.toNat v) i = if i = j then v else rd d i := by
  unfold rd
  rw [List.getD_eq_getElem?_getD, List.getD_eq_getElem?_getD, List.getElem?_set]
  by_cases h : i = j
  · rw [if_pos (by rw [h]), if_pos (by omega), if_pos h]; rfl
  · rw [if_neg (by omega), if_neg h]
theorem rd_neg (d : List Int) (i : Int) (h : i < 0) : rd d i = rd d 0 := by
  unfold rd; rw [show i.toNat = 0 from by omega]; rfl
theorem U_set (d : List Int) (j v : Int) (h0 : 0 ≤ j) (h1 : j < d.length) (h2 : rd d j < 0) (hv : 0 ≤ v) : U (d.set j.toNat v) + 1 = U d := by
  have hj : j.toNat < d.length := by omega
  have e : rd d j = d[j.toNat] := by simp [rd, List.getD_eq_getElem?_getD, hj]
  have hp : 0 < U d := by
    unfold U; exact List.countP_pos_iff.2 ⟨d[j.toNat], List.getElem_mem _, by simp; omega⟩
  unfold U at hp ⊢
  rw [List.countP_set hj]
  simp only [← e, decide_eq_true h2, if_true, decide_eq_true_eq]
  rw [if_neg (by omega)]
  omega
theorem rd_in' (T : List Int) (b : Int) (h0 : 0 ≤ b) (h1 : b < T.length) : rd T b ∈ T := by
  have h : b.toNat < T.length := by omega
  simp [rd, List.getD_eq_getElem?_getD, h]
theorem mem_rd {d : List Int} {y : Int} (h : y ∈ d) : ∃ i : Int, 0 ≤ i ∧ i < d.length ∧ rd d i = y := by
  obtain ⟨i, hi, e⟩ := rd_mem h
  exact ⟨i, by omega, by omega, e⟩
theorem vis_ok {n c x : Int} {s : St} (h : Inv n c x s) (j : Int) : Inv n c x (vis x s j) ∧ Ext s (vis x s j) ∧ (0 ≤ j → j < n → 0 ≤ rd (vis x s j).1 j) := by
  unfold vis
  by_cases g : 0 ≤ j ∧ j < (s.1.length : Int) ∧ rd s.1 j < 0
  · rw [if_pos g]
    obtain ⟨g0, g1, g2⟩ := g
    have hx := h.xv
    have hU := U_set s.1 j (rd s.1 x + 1) g0 g1 g2 (by omega)
    have hne : ∀ i, 0 ≤ i → 0 ≤ rd s.1 i → rd (s.1.set j.toNat (rd s.1 x + 1)) i = rd s.1 i := fun i i0 hi => by
      rw [rd_set _ _ _ _ g0 g1 i0, if_neg (by intro e; rw [e] at hi; omega)]
    have hxh := h.hi _ (rd_in' s.1 x h.x0 (by rw [h.len]; exact h.x1))
    have hall : ∀ y ∈ s.1.set j.toNat (rd s.1 x + 1), y = rd s.1 x + 1 ∨ y ∈ s.1 := fun y hy => by
      rcases List.mem_or_eq_of_mem_set hy with h | h
      · exact .inr h
      · exact .inl h
    refine ⟨⟨by simpa using h.len, fun y hy => ?_, fun y hy => ?_, fun i hi => ?_, ?_, h.x0, h.x1, ?_⟩, ⟨fun i hi => ?_, ⟨[j], rfl⟩, fun i i0 i1 hi => ?_, by simp, ?_⟩, fun _ _ => ?_⟩
    · rcases hall y hy with e | e
      · omega
      · exact h.lo y e
    · show y + (U (s.1.set j.toNat (rd s.1 x + 1)) : Int) + 1 ≤ n
      rcases hall y hy with e | e
      · omega
      · have := h.hi y e; omega
    · rcases List.mem_append.1 hi with hi | hi
      · obtain ⟨a, b, e⟩ := h.inq i hi
        exact ⟨a, b, by show 0 ≤ rd (s.1.set j.toNat (rd s.1 x + 1)) i; rw [hne i a e]; exact e⟩
      · obtain rfl : i = j := by simpa using hi
        have := h.len
        refine ⟨g0, by omega, ?_⟩
        show 0 ≤ rd (s.1.set i.toNat (rd s.1 x + 1)) i
        rw [rd_set _ _ _ _ g0 g1 g0, if_pos rfl]; omega
    · have := h.cnt
      show c + ((s.2 ++ [j]).length : Int) + (U (s.1.set j.toNat (rd s.1 x + 1)) : Int) = n
      rw [List.length_append]
      simp only [List.length_singleton]
      omega
    · show 0 ≤ rd (s.1.set j.toNat (rd s.1 x + 1)) x
      rw [hne x h.x0 hx]; exact hx
    · show rd (s.1.set j.toNat (rd s.1 x + 1)) i = rd s.1 i
      by_cases i0 : 0 ≤ i
      · exact hne i i0 hi
      · have h1 := rd_neg (s.1.set j.toNat (rd s.1 x + 1)) i (by omega)
        have h2 := rd_neg s.1 i (by omega)
        rw [h2] at hi
        rw [h1, h2]
        exact hne 0 (by omega) hi
    · have hi' : 0 ≤ rd (s.1.set j.toNat (rd s.1 x + 1)) i := hi
      rw [rd_set _ _ _ _ g0 g1 i0] at hi'
      by_cases e : i = j
      · right; rw [e]; exact List.mem_append_right _ (by simp)
      · rw [if_neg e] at hi'; exact .inl hi'
    · show (s.2 ++ [j]).length + U (s.1.set j.toNat (rd s.1 x + 1)) = _
      rw [List.length_append]
      simp only [List.length_singleton]
      omega
    · show 0 ≤ rd (s.1.set j.toNat (rd s.1 x + 1)) j
      rw [rd_set _ _ _ _ g0 g1 g0, if_pos rfl]; omega
  · rw [if_neg g]
    have := h.len
    exact ⟨h, Ext.refl s, fun a b => by omega⟩
theorem vv_ok {n c x : Int} {s : St} (h : Inv n c x s) (v : Int) : Inv n c x (vv x s v) ∧ Ext s (vv x s v) ∧ (0 ≤ x + v → x + v < n → 0 ≤ rd (vv x s v).1 (x + v)) := by
  obtain ⟨a1, a2, _⟩ := vis_ok h (x - v)
  obtain ⟨b1, b2, b3⟩ := vis_ok a1 (x + v)
  exact ⟨b1, a2.trans b2, b3⟩
theorem nd_ok {n c x : Int} : ∀ (l : List Int) {s : St}, Inv n c x s → Inv n c x (nd x l s) ∧ Ext s (nd x l s) := by
  intro l
  induction l with
  | nil => intro s h; exact ⟨h, Ext.refl s⟩
  | cons v l ih =>
    intro s h
    obtain ⟨a, b, _⟩ := vv_ok h v
    obtain ⟨a', b'⟩ := ih a
    exact ⟨a', b.trans b'⟩
/-- the neighbour above -/
theorem nd_up {n c x : Int} {l : List Int} {s : St} (h : Inv n c x s) (l' : List Int) (hl : l = 1 :: l') (hx : x + 1 < n) : 0 ≤ rd (nd x l s).1 (x + 1) := by
  subst hl
  obtain ⟨a, b, e⟩ := vv_ok h 1
  have e := e (by have := h.x0; omega) hx
  obtain ⟨_, b'⟩ := nd_ok l' a
  have := b'.keep _ e
  show 0 ≤ rd (nd x l' (vv x s 1)).1 (x + 1)
  rw [this]; exact e

/-! ### the program's rounds -/
theorem p_l2 (l : List Int) (am m x : Int) (L i : Int) (n c : Int) (hn : n ≤ 1000000) (hc : 0 ≤ c) (s : St) (h : Inv n c x s) (js : List Int) (hjs : js.length = 2) (z : Int) (hz0 : 0 ≤ z) (hz : z < 2) (r : Int × Int)
    (k : Ev (fun k => coins_Both.l2 k l am m (vis x s (rd js z)).1 (vis x s (rd js z)).2 x l L i js 2 (z + 1)) r) :
    Ev (fun k => coins_Both.l2 k l am m s.1 s.2 x l L i js 2 z) r := by
  have hx0 := h.x0
  have hx1 := h.x1
  have hlen := h.len
  have hcnt := h.cnt
  have hxh := h.hi _ (rd_in' s.1 x h.x0 (by omega))
  have hxv := h.xv
  have hw : wrap64 (rd s.1 x + 1) = rd s.1 x + 1 := w64 (by omega) (by omega)
  have hw2 : wrap64 (z + 1) = z + 1 := w64 (by omega) (by omega)
  refine Ev.step (fun k => ?_) k
  simp only [coins_Both.l2]
  rw [if_pos (by omega), if_pos hz0, if_pos (by omega)]
  unfold vis
  by_cases c1 : 0 ≤ rd js z
  · rw [if_pos c1]
    by_cases c2 : rd js z < (s.1.length : Int)
    · rw [if_pos c2, if_pos c1]
      by_cases c3 : rd s.1 (rd js z) < 0
      · rw [if_pos c3, if_pos hx0, if_pos (by omega), if_pos (by omega), if_pos ⟨c1, c2, c3⟩, hw, hw2]
      · rw [if_neg c3, if_neg (fun g => c3 g.2.2), hw2]
    · rw [if_neg c2, if_neg (fun g => c2 g.2.1), hw2]
  · rw [if_neg c1, if_neg (fun g => c1 g.1), hw2]
theorem p_l1 (l : List Int) (hl : l.length ≤ 40) (hv : ∀ v ∈ l, 1 ≤ v ∧ v ≤ 1000000) (am m x : Int) (n c : Int) (hn : n ≤ 1000000) (hc : 0 ≤ c) (r : Int × Int) (d : Nat) : ∀ (q : Nat) (s : St), q + d = l.length → Inv n c x s →
    Ev (fun k => coins_Both.l0 k l am m (nd x (l.drop q) s).1 (nd x (l.drop q) s).2) r → Ev (fun k => coins_Both.l1 k l am m s.1 s.2 x l (l.length : Int) (q : Int)) r := by
  induction d with
  | zero =>
    intro q s hq h k
    rw [List.drop_of_length_le (by omega)] at k
    refine Ev.step (fun k => ?_) k
    simp only [coins_Both.l1]
    rw [if_neg (by omega)]
    rfl
  | succ d ih =>
    intro q s hq h k
    have hx0 := h.x0
    have hx1 := h.x1
    have hvq := hv (rd l (q : Int)) (rd_in' l q (by omega) (by omega))
    have e1 : l.drop q = rd l (q : Int) :: l.drop (q + 1) := by
      rw [List.drop_eq_getElem_cons (show q < l.length by omega)]
      simp [rd, List.getD_eq_getElem?_getD, show q < l.length from by omega]
    rw [e1] at k
    obtain ⟨v, hvv⟩ : ∃ v, rd l (q : Int) = v := ⟨_, rfl⟩
    rw [hvv] at k hvq
    have a1 := (vis_ok h (x - v)).1
    have a2 := (vv_ok h v).1
    have k2 := ih (q + 1) (vv x s v) (by omega) a2 k
    refine Ev.step (f := fun k => coins_Both.l2 k l am m s.1 s.2 x l (l.length : Int) (q : Int) [x - v, x + v] 2 0) (fun k => ?_) ?_
    · simp only [coins_Both.l1]
      rw [if_pos (by omega), if_pos (by omega), if_pos (by omega), hvv, w64 (by omega) (by omega), w64 (by omega) (by omega)]
      rfl
    refine p_l2 l am m x _ _ n c hn hc s h [x - v, x + v] rfl 0 (by omega) (by omega) r ?_
    rw [show rd [x - v, x + v] 0 = x - v from rfl]
    refine p_l2 l am m x _ _ n c hn hc _ a1 [x - v, x + v] rfl (0 + 1) (by omega) (by omega) r ?_
    rw [show rd [x - v, x + v] (0 + 1) = x + v from rfl]
    refine Ev.step (f := fun k => coins_Both.l1 k l am m (vv x s v).1 (vv x s v).2 x l (l.length : Int) ((q + 1 : Nat) : Int)) (fun k => ?_) k2
    simp only [coins_Both.l2]
    rw [if_neg (by omega), w64 (x := (q : Int) + 1) (by omega) (by omega)]
    rfl
end Go.Proofs.Ytgbalmjnjpfopaa.L
