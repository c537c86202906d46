/- Chairs: ChairsTurns. -/
import Derived.Test.YtfopeenjpdaacaaLSit
import Derived.Test.YtfopeenjpdaacaaPCf4
namespace Go.Proofs.Ytfopeenjpdaacaa.L
open Go.RowKit Go.Proofs.Ytfopeenjpdaacaa.PC Go.Proofs.YtfopeenjpdaacaaW.PrintWords Go.Proofs.YtfopeenjpdaacaaW.PrintLast
/-- wishes with a number added, around m + 1 chairs -/
def turnL (m t : Int) (l : List Int) : List Int := l.map fun w => (w + t) % (m + 1)
theorem turned_loop (m t : Int) (l : List Int) (h : Row m l) (ht : 0 ≤ t ∧ t ≤ m) (d : Nat) : ∀ (q : Nat) (out : List Int), q + d = l.length → out.length = q →
    Ev (fun k => chairs_turned.l0 k m t out l (l.length : Int) (q : Int)) (out ++ turnL m t (l.drop q)) ∧ Ev (fun k => pomaderef03_Turned.l0 k m l t out (q : Int)) (out ++ turnL m t (l.drop q)) := by
  have h1 := h.m1; have h2 := h.m30; have h3 := h.len
  induction d with
  | zero =>
    intro q out hq ho
    rw [List.drop_of_length_le (by omega), show turnL m t [] = [] from rfl, List.append_nil]
    refine ⟨Ev.step (f := fun _ => some out) (fun k => ?_) (Ev.now _), Ev.step (f := fun _ => some out) (fun k => ?_) (Ev.now _)⟩
    · simp only [chairs_turned.l0]; rw [if_neg (by omega)]
    · simp only [pomaderef03_Turned.l0]; rw [if_neg (by omega)]
  | succ d ih =>
    intro q out hq ho
    have hr := h.all _ (rd_mem l q (by omega))
    obtain ⟨x, hx⟩ : ∃ x, rd l (q : Int) = x := ⟨_, rfl⟩
    obtain ⟨i1, i2⟩ := ih (q + 1) (out ++ [(x + t) % (m + 1)]) (by omega) (by simp; omega)
    have e : out ++ [(x + t) % (m + 1)] ++ turnL m t (l.drop (q + 1)) = out ++ turnL m t (l.drop q) := by
      rw [drop_rd l q (by omega), hx]; simp [turnL]
    rw [e] at i1 i2
    rw [hx] at hr
    have w1 : wrap64 (m + 1) = m + 1 := w64 (by omega) (by omega)
    have w2 : wrap64 (x + t) = x + t := w64 (by omega) (by omega)
    have w3 : Int.tmod (x + t) (m + 1) = (x + t) % (m + 1) := Int.tmod_eq_emod_of_nonneg (by omega)
    refine ⟨Ev.step (fun k => ?_) i1, Ev.step (fun k => ?_) i2⟩
    · simp only [chairs_turned.l0]
      rw [if_pos (by omega), if_pos (by omega), if_pos (by omega), w1, if_neg (by omega), if_pos (by omega), hx, w2, w3, w64 (by omega) (by omega)]
      rfl
    · simp only [pomaderef03_Turned.l0]
      rw [if_pos (by omega), if_pos (by omega), w1, if_neg (by omega), if_pos (by omega), hx, w2, w3, w64 (by omega) (by omega)]
      rfl
theorem turned_ev (m t : Int) (l : List Int) (h : Row m l) (ht : 0 ≤ t ∧ t ≤ m) : Ev (fun k => chairs_turned.f k m l t) (turnL m t l) ∧ Ev (fun k => pomaderef03_Turned.f k m l t) (turnL m t l) := by
  have := turned_loop m t l h ht l.length 0 [] (by omega) rfl
  rw [List.drop_zero, List.nil_append] at this
  exact this
theorem index_loop (l : List Int) (a : Int) (hl : l.length ≤ 1000000) (d : Nat) : ∀ q : Nat, q + d = l.length → ∃ r : Int, Ev (fun k => slices_Index_int_int.l0 k l a (l.length : Int) (q : Int)) r ∧ (r ≥ 0 ↔ a ∈ l.drop q) := by
  induction d with
  | zero =>
    intro q hq
    refine ⟨-1, Ev.step (f := fun _ => some (-1)) (fun k => ?_) (Ev.now _), by rw [List.drop_of_length_le (by omega)]; simp⟩
    simp only [slices_Index_int_int.l0]; rw [if_neg (by omega)]
  | succ d ih =>
    intro q hq
    rw [drop_rd l q (by omega)]
    by_cases c : a = rd l (q : Int)
    · refine ⟨(q : Int), Ev.step (f := fun _ => some (q : Int)) (fun k => ?_) (Ev.now _), ⟨fun _ => by rw [c]; exact List.mem_cons_self, fun _ => by omega⟩⟩
      simp only [slices_Index_int_int.l0]; rw [if_pos (by omega), if_pos (by omega), if_pos (by omega), if_pos c]
    · obtain ⟨r, h1, h2⟩ := ih (q + 1) (by omega)
      refine ⟨r, Ev.step (fun k => ?_) h1, ?_⟩
      · simp only [slices_Index_int_int.l0]
        rw [if_pos (by omega), if_pos (by omega), if_pos (by omega), if_neg c, w64 (by omega) (by omega)]
        rfl
      · rw [h2, List.mem_cons]
        exact ⟨fun g => .inr g, fun g => g.resolve_left c⟩
theorem contains_ev (l : List Int) (a : Int) (hl : l.length ≤ 1000000) : Ev (fun k => slices_Contains_int_int.f k l a) (decide (a ∈ l)) := by
  obtain ⟨r, h1, h2⟩ := index_loop l a hl l.length 0 (by omega)
  rw [List.drop_zero] at h2
  refine Ev.bind h1 (Ev.congr (fun k => ?_) (Ev.now _))
  congr 1
  exact decide_eq_decide.2 h2
theorem turn_row (m t : Int) (l : List Int) (h : Row m l) : (rowV m (turnL m t l) = 0 ↔ ¬ m ∈ turnL m t l) := by
  have h1 := h.m1
  have hin : ∀ w ∈ turnL m t l, 0 ≤ w ∧ w ≤ m := fun w hw => by
    obtain ⟨x, _, rfl⟩ := List.mem_map.1 hw
    have a := Int.emod_nonneg (x + t) (show m + 1 ≠ 0 by omega)
    have b := Int.emod_lt_of_pos (x + t) (show 0 < m + 1 by omega)
    omega
  rw [row_iff]
  constructor
  · intro g hm
    have := g.all m hm
    omega
  · intro g
    refine ⟨h1, h.m30, by unfold turnL; rw [List.length_map]; exact h.len, fun w hw => ?_⟩
    have := hin w hw
    refine ⟨this.1, ?_⟩
    rcases Int.lt_or_eq_of_le this.2 with e | e
    · exact e
    · rw [e] at hw; exact absurd hw g
theorem turn_loop (m : Int) (l : List Int) (h : Row m l) (d : Nat) : ∀ t : Int, 0 ≤ t → t + d = m + 1 → ∃ r, Ev (fun k => chairs_Turn.l0 k m l (m + 1) t) r ∧ Ev (fun k => pomaderef03_Turn.l0 k m l t) r := by
  have h1 := h.m1; have h2 := h.m30; have h3 := h.len
  induction d with
  | zero =>
    intro t h0 ht
    refine ⟨(0, 10), Ev.step (f := fun _ => some (0, 10)) (fun k => ?_) (Ev.now _), Ev.step (f := fun _ => some (0, 10)) (fun k => ?_) (Ev.now _)⟩
    · simp only [chairs_Turn.l0]; rw [if_neg (by omega)]
    · simp only [pomaderef03_Turn.l0]; rw [if_neg (by omega)]
  | succ d ih =>
    intro t h0 ht
    obtain ⟨r, i1, i2⟩ := ih (t + 1) (by omega) (by omega)
    obtain ⟨t1, t2⟩ := turned_ev m t l h ⟨h0, by omega⟩
    have hw : wrap64 (t + 1) = t + 1 := w64 (by omega) (by omega)
    have hlen : (turnL m t l).length ≤ 1000000 := by unfold turnL; rw [List.length_map]; omega
    have hr := turn_row m t l h
    by_cases c : m ∈ turnL m t l
    · refine ⟨r, Ev.step (f := fun k => (chairs_turned.f k m l t).bind fun t132 => ((slices_Contains_int_int.f k t132 m).bind fun t135 => (if t135 = true then (chairs_Turn.l0 k m l (m + 1) (t + 1)) else ((chairs_sit.f k m t132).bind fun bt136 => (if bt136.2 = true then (some (t, 0)) else (chairs_Turn.l0 k m l (m + 1) (t + 1))))))) (fun k => ?_) ?_, Ev.step (f := fun k => (pomaderef03_Turned.f k m l t).bind fun t292 => ((pomaderef03_Row.f k m t292).bind fun t295 => (if t295 = 0 then ((pomaderef03_sit.f k m t292).bind fun bt296 => (if bt296.2 = true then (some (t, 0)) else (pomaderef03_Turn.l0 k m l (t + 1)))) else (pomaderef03_Turn.l0 k m l (t + 1))))) (fun k => ?_) ?_⟩
      · simp only [chairs_Turn.l0]; rw [if_pos (by omega), hw]
      · refine Ev.bind t1 (Ev.bind (contains_ev _ m hlen) ?_)
        rw [decide_eq_true c]
        exact Ev.congr (fun k => if_pos rfl) i1
      · simp only [pomaderef03_Turn.l0]; rw [if_pos (by omega), hw]
      · refine Ev.bind t2 (Ev.bind (row_ev _ _ hlen) ?_)
        exact Ev.congr (fun k => if_neg (fun g => hr.1 g c)) i2
    · have hR := (row_iff m _).1 (hr.2 c)
      obtain ⟨s, hs⟩ : ∃ s, sitV m (turnL m t l) = s := ⟨_, rfl⟩
      have p1 := psit_ev m _ hR
      have p2 := rsit_ev m _ hR
      rw [hs] at p1 p2
      refine ⟨if s.2 = true then (t, 0) else r, Ev.step (f := fun k => (chairs_turned.f k m l t).bind fun t132 => ((slices_Contains_int_int.f k t132 m).bind fun t135 => (if t135 = true then (chairs_Turn.l0 k m l (m + 1) (t + 1)) else ((chairs_sit.f k m t132).bind fun bt136 => (if bt136.2 = true then (some (t, 0)) else (chairs_Turn.l0 k m l (m + 1) (t + 1))))))) (fun k => ?_) ?_, Ev.step (f := fun k => (pomaderef03_Turned.f k m l t).bind fun t292 => ((pomaderef03_Row.f k m t292).bind fun t295 => (if t295 = 0 then ((pomaderef03_sit.f k m t292).bind fun bt296 => (if bt296.2 = true then (some (t, 0)) else (pomaderef03_Turn.l0 k m l (t + 1)))) else (pomaderef03_Turn.l0 k m l (t + 1))))) (fun k => ?_) ?_⟩
      · simp only [chairs_Turn.l0]; rw [if_pos (by omega), hw]
      · refine Ev.bind t1 (Ev.bind (contains_ev _ m hlen) ?_)
        rw [decide_eq_false c]
        refine Ev.congr (fun k => if_neg (by simp)) (Ev.bind p1 ?_)
        by_cases g : s.2 = true
        · rw [if_pos g]; exact Ev.congr (fun k => if_pos g) (Ev.now _)
        · rw [if_neg g]; exact Ev.congr (fun k => if_neg g) i1
      · simp only [pomaderef03_Turn.l0]; rw [if_pos (by omega), hw]
      · refine Ev.bind t2 (Ev.bind (row_ev _ _ hlen) ?_)
        refine Ev.congr (fun k => if_pos (hr.2 c)) (Ev.bind p2 ?_)
        by_cases g : s.2 = true
        · rw [if_pos g]; exact Ev.congr (fun k => if_pos g) (Ev.now _)
        · rw [if_neg g]; exact Ev.congr (fun k => if_neg g) i2
theorem turn_both (m : Int) (l : List Int) (hl : l.length ≤ 1000000) : ∃ r, Ev (fun k => chairs_Turn.f k m l) r ∧ Ev (fun k => pomaderef03_Turn.f k m l) r := by
  have e1 : Ev (fun _ => chairs_wished.f m l) (rowV m l) := Ev.congr (fun _ => wished_ev m l) (Ev.now _)
  have e2 := row_ev m l hl
  by_cases h : rowV m l = 0
  · have hR := (row_iff m l).1 h
    have h2 := hR.m30; have h1 := hR.m1
    obtain ⟨r, i1, i2⟩ := turn_loop m l hR (m + 1).toNat 0 (by omega) (by omega)
    refine ⟨r, Ev.bind e1 (Ev.congr (fun k => ?_) i1), Ev.bind e2 (Ev.congr (fun k => if_pos h) i2)⟩
    rw [if_pos h, w64 (by omega) (by omega)]
  · exact ⟨(0, rowV m l), Ev.bind e1 (Ev.congr (fun k => if_neg h) (Ev.now _)), Ev.bind e2 (Ev.congr (fun k => if_neg h) (Ev.now _))⟩
theorem ChairsTurns_pure : pomadelaw03_ChairsTurns.Pure := by
  intro m l _ _ _ _
  refine Ev.rounds ?_
  by_cases c : (l.length : Int) > 60
  · exact Ev.congr (fun k => by unfold pomadelaw03_ChairsTurns.f; rw [if_pos c]; rfl) (Ev.now true)
  refine Ev.congr (fun k => by unfold pomadelaw03_ChairsTurns.f; rw [if_neg c]) ?_
  obtain ⟨r, h1, h2⟩ := turn_both m l (by omega)
  refine Ev.bind h1 (Ev.bind h2 ?_)
  simp only [if_true]
  exact Ev.now true
end Go.Proofs.Ytfopeenjpdaacaa.L
namespace Go.Proofs.Ytfopeenjpdaacaa.Pure
theorem ChairsTurns : Go.Proofs.Ytfopeenjpdaacaa.PC.pomadelaw03_ChairsTurns.Pure := Go.Proofs.Ytfopeenjpdaacaa.L.ChairsTurns_pure
end Go.Proofs.Ytfopeenjpdaacaa.Pure
