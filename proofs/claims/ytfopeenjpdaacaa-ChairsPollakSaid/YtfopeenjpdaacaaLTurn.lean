/- Chairs: turned wishes. -/
import Derived.Test.YtfopeenjpdaacaaLPark
import Derived.Test.YtfopeenjpdaacaaMPollak
import Derived.Test.YtfopeenjpdaacaaPCf22
import Derived.Test.YtfopeenjpdaacaaPCf30
namespace Go.Proofs.Ytfopeenjpdaacaa.L
open Go.RowKit Go.Proofs.Ytfopeenjpdaacaa.PC Go.Proofs.YtfopeenjpdaacaaW.PrintWords Go.Proofs.YtfopeenjpdaacaaW.PrintLast
/-- wishes with a number added, around m + 1 chairs -/
def turnL (m t : Int) (l : List Int) : List Int := l.map fun w => (w + t) % (m + 1)
theorem turned_loop (m t : Int) (l : List Int) (h : Row m l) (ht : 0 ≤ t ∧ t ≤ m) (d : Nat) : ∀ (q : Nat) (out : List Int), q + d = l.length → out.length = q →
    Ev (fun k => chairs_turned.l0 k m t out l (l.length : Int) (q : Int)) (out ++ turnL m t (l.drop q)) ∧ Ev (fun k => pomaderef03_Turned.l0 k m l t out (q : Int)) (out ++ turnL m t (l.drop q)) := by
  have h1 := h.m1; have h2 := h.m30; have h3 := h.len
  induction d with
  | zero =>
    intro q out hq ho
    rw [List.drop_of_length_le (by omega), show turnL m t [] = [] from rfl, List.append_nil]
    refine ⟨Ev.step (f := fun _ => some out) (fun k => ?_) (Ev.now _), Ev.step (f := fun _ => some out) (fun k => ?_) (Ev.now _)⟩
    · simp only [chairs_turned.l0]; rw [if_neg (by omega)]
    · simp only [pomaderef03_Turned.l0]; rw [if_neg (by omega)]
  | succ d ih =>
    intro q out hq ho
    have hr := h.all _ (rd_mem l q (by omega))
    obtain ⟨x, hx⟩ : ∃ x, rd l (q : Int) = x := ⟨_, rfl⟩
    obtain ⟨i1, i2⟩ := ih (q + 1) (out ++ [(x + t) % (m + 1)]) (by omega) (by simp; omega)
    have e : out ++ [(x + t) % (m + 1)] ++ turnL m t (l.drop (q + 1)) = out ++ turnL m t (l.drop q) := by
      rw [drop_rd l q (by omega), hx]; simp [turnL]
    rw [e] at i1 i2
    rw [hx] at hr
    have w1 : wrap64 (m + 1) = m + 1 := w64 (by omega) (by omega)
    have w2 : wrap64 (x + t) = x + t := w64 (by omega) (by omega)
    have w3 : Int.tmod (x + t) (m + 1) = (x + t) % (m + 1) := Int.tmod_eq_emod_of_nonneg (by omega)
    refine ⟨Ev.step (fun k => ?_) i1, Ev.step (fun k => ?_) i2⟩
    · simp only [chairs_turned.l0]
      rw [if_pos (by omega), if_pos (by omega), if_pos (by omega), w1, if_neg (by omega), if_pos (by omega), hx, w2, w3, w64 (by omega) (by omega)]
      rfl
    · simp only [pomaderef03_Turned.l0]
      rw [if_pos (by omega), if_pos (by omega), w1, if_neg (by omega), if_pos (by omega), hx, w2, w3, w64 (by omega) (by omega)]
      rfl
theorem turned_ev (m t : Int) (l : List Int) (h : Row m l) (ht : 0 ≤ t ∧ t ≤ m) : Ev (fun k => chairs_turned.f k m l t) (turnL m t l) ∧ Ev (fun k => pomaderef03_Turned.f k m l t) (turnL m t l) := by
  have := turned_loop m t l h ht l.length 0 [] (by omega) rfl
  rw [List.drop_zero, List.nil_append] at this
  exact this
theorem index_loop (l : List Int) (a : Int) (hl : l.length ≤ 1000000) (d : Nat) : ∀ q : Nat, q + d = l.length → ∃ r : Int, Ev (fun k => slices_Index_int_int.l0 k l a (l.length : Int) (q : Int)) r ∧ (r ≥ 0 ↔ a ∈ l.drop q) := by
  induction d with
  | zero =>
    intro q hq
    refine ⟨-1, Ev.step (f := fun _ => some (-1)) (fun k => ?_) (Ev.now _), by rw [List.drop_of_length_le (by omega)]; simp⟩
    simp only [slices_Index_int_int.l0]; rw [if_neg (by omega)]
  | succ d ih =>
    intro q hq
    rw [drop_rd l q (by omega)]
    by_cases c : a = rd l (q : Int)
    · refine ⟨(q : Int), Ev.step (f := fun _ => some (q : Int)) (fun k => ?_) (Ev.now _), ⟨fun _ => by rw [c]; exact List.mem_cons_self, fun _ => by omega⟩⟩
      simp only [slices_Index_int_int.l0]; rw [if_pos (by omega), if_pos (by omega), if_pos (by omega), if_pos c]
    · obtain ⟨r, h1, h2⟩ := ih (q + 1) (by omega)
      refine ⟨r, Ev.step (fun k => ?_) h1, ?_⟩
      · simp only [slices_Index_int_int.l0]
        rw [if_pos (by omega), if_pos (by omega), if_pos (by omega), if_neg c, w64 (by omega) (by omega)]
        rfl
      · rw [h2, List.mem_cons]
        exact ⟨fun g => .inr g, fun g => g.resolve_left c⟩
theorem contains_ev (l : List Int) (a : Int) (hl : l.length ≤ 1000000) : Ev (fun k => slices_Contains_int_int.f k l a) (decide (a ∈ l)) := by
  obtain ⟨r, h1, h2⟩ := index_loop l a hl l.length 0 (by omega)
  rw [List.drop_zero] at h2
  refine Ev.bind h1 (Ev.congr (fun k => ?_) (Ev.now _))
  congr 1
  exact decide_eq_decide.2 h2
theorem turn_row (m t : Int) (l : List Int) (h : Row m l) : (rowV m (turnL m t l) = 0 ↔ ¬ m ∈ turnL m t l) := by
  have h1 := h.m1
  have hin : ∀ w ∈ turnL m t l, 0 ≤ w ∧ w ≤ m := fun w hw => by
    obtain ⟨x, _, rfl⟩ := List.mem_map.1 hw
    have a := Int.emod_nonneg (x + t) (show m + 1 ≠ 0 by omega)
    have b := Int.emod_lt_of_pos (x + t) (show 0 < m + 1 by omega)
    omega
  rw [row_iff]
  constructor
  · intro g hm
    have := g.all m hm
    omega
  · intro g
    refine ⟨h1, h.m30, by unfold turnL; rw [List.length_map]; exact h.len, fun w hw => ?_⟩
    have := hin w hw
    refine ⟨this.1, ?_⟩
    rcases Int.lt_or_eq_of_le this.2 with e | e
    · exact e
    · rw [e] at hw; exact absurd hw g
/-- a turn is good -/
def TGood (m : Int) (l : List Int) (t : Int) : Prop := GoodV m (turnL m t l) = (true, 0)
theorem tgood_iff (m t : Int) (l : List Int) : TGood m l t ↔ rowV m (turnL m t l) = 0 ∧ (sitV m (turnL m t l)).2 = true := by
  unfold TGood GoodV
  by_cases c : rowV m (turnL m t l) = 0
  · rw [if_pos c]; simp [c]
  · rw [if_neg c]; simp [c]
/-- Turn tells the first good turn -/
theorem turn_first (m : Int) (l : List Int) (h : Row m l) (t0 : Int) (ht0 : t0 ≤ m) (hg : TGood m l t0) (d : Nat) : ∀ t : Int, 0 ≤ t → t + d = t0 → (∀ i, t ≤ i → i < t0 → ¬ TGood m l i) → Ev (fun k => chairs_Turn.l0 k m l (m + 1) t) (t0, 0) := by
  have h1 := h.m1; have h2 := h.m30; have h3 := h.len
  induction d with
  | zero =>
    intro t h0 ht hno
    obtain rfl : t = t0 := by omega
    obtain ⟨g1, g2⟩ := (tgood_iff m t l).1 hg
    obtain ⟨t1, _⟩ := turned_ev m t l h ⟨h0, ht0⟩
    have hlen : (turnL m t l).length ≤ 1000000 := by unfold turnL; rw [List.length_map]; omega
    have hw : wrap64 (t + 1) = t + 1 := w64 (by omega) (by omega)
    have c := (turn_row m t l h).1 g1
    refine Ev.step (f := fun k => (chairs_turned.f k m l t).bind fun t132 => ((slices_Contains_int_int.f k t132 m).bind fun t135 => (if t135 = true then (chairs_Turn.l0 k m l (m + 1) (t + 1)) else ((chairs_sit.f k m t132).bind fun bt136 => (if bt136.2 = true then (some (t, 0)) else (chairs_Turn.l0 k m l (m + 1) (t + 1))))))) (fun k => ?_) ?_
    · simp only [chairs_Turn.l0]; rw [if_pos (by omega), hw]
    · refine Ev.bind t1 (Ev.bind (contains_ev _ m hlen) ?_)
      rw [decide_eq_false c]
      refine Ev.congr (fun k => if_neg (by simp)) (Ev.bind (psit_ev m _ ((row_iff m _).1 g1)) ?_)
      exact Ev.congr (fun k => if_pos g2) (Ev.now _)
  | succ d ih =>
    intro t h0 ht hno
    have hi := ih (t + 1) (by omega) (by omega) (fun i a b => hno i (by omega) b)
    have hng := hno t (Int.le_refl _) (by omega)
    rw [tgood_iff] at hng
    obtain ⟨t1, _⟩ := turned_ev m t l h ⟨h0, by omega⟩
    have hlen : (turnL m t l).length ≤ 1000000 := by unfold turnL; rw [List.length_map]; omega
    have hw : wrap64 (t + 1) = t + 1 := w64 (by omega) (by omega)
    refine Ev.step (f := fun k => (chairs_turned.f k m l t).bind fun t132 => ((slices_Contains_int_int.f k t132 m).bind fun t135 => (if t135 = true then (chairs_Turn.l0 k m l (m + 1) (t + 1)) else ((chairs_sit.f k m t132).bind fun bt136 => (if bt136.2 = true then (some (t, 0)) else (chairs_Turn.l0 k m l (m + 1) (t + 1))))))) (fun k => ?_) ?_
    · simp only [chairs_Turn.l0]; rw [if_pos (by omega), hw]
    · refine Ev.bind t1 (Ev.bind (contains_ev _ m hlen) ?_)
      by_cases c : m ∈ turnL m t l
      · rw [decide_eq_true c]
        exact Ev.congr (fun k => if_pos rfl) hi
      · have g1 := (turn_row m t l h).2 c
        rw [decide_eq_false c]
        refine Ev.congr (fun k => if_neg (by simp)) (Ev.bind (psit_ev m _ ((row_iff m _).1 g1)) ?_)
        exact Ev.congr (fun k => if_neg (fun g2 => hng ⟨g1, g2⟩)) hi
/-- as many customers as chairs: exactly one turn is good -/
theorem one_good (l : List Int) (h : Row (l.length : Int) l) : ∃ t : Nat, t ≤ l.length ∧ ∀ i : Nat, i ≤ l.length → (TGood (l.length : Int) l (i : Int) ↔ i = t) := by
  have hws : ∀ w ∈ l.map Int.toNat, w < l.length + 1 := fun w hw => by
    obtain ⟨x, hx, rfl⟩ := List.mem_map.1 hw
    have := h.all x hx
    omega
  obtain ⟨t, ht, hu⟩ := MPollak.one_turn (n := l.length) (ws := l.map Int.toNat) (by simp) hws
  refine ⟨t, ht, fun i hi => ?_⟩
  rw [← hu i hi]
  have hlen : (turnL (l.length : Int) (i : Int) l).length = l.length := by unfold turnL; rw [List.length_map]
  have hcnt : ∀ k : Nat, (l.map Int.toNat).countP (fun w => decide ((w + i) % (l.length + 1) < k)) = below (turnL (l.length : Int) (i : Int) l) (k : Int) := fun k => by
    unfold below turnL
    rw [List.countP_map, List.countP_map]
    refine List.countP_congr fun w hw => ?_
    have h0 := (h.all w hw).1
    obtain ⟨u, rfl⟩ : ∃ u : Nat, w = (u : Int) := ⟨w.toNat, by omega⟩
    simp only [Function.comp, Int.toNat_natCast, decide_eq_true_eq]
    rw [show ((u : Int) + (i : Int)) % ((l.length : Int) + 1) = (((u + i) % (l.length + 1) : Nat) : Int) by simp]
    omega
  unfold MPollak.Good
  rw [tgood_iff]
  constructor
  · rintro ⟨g1, g2⟩ k h1 h2
    rw [hcnt]
    have hR := (row_iff _ _).1 g1
    have hR' : Row ((turnL (l.length : Int) (i : Int) l).length : Int) (turnL (l.length : Int) (i : Int) l) := by rw [hlen]; exact hR
    refine (good_below _ hR').1 ?_ k h1 (by rw [hlen]; exact h2)
    rw [hlen]; exact g2
  · intro hg
    have hno : ¬ (l.length : Int) ∈ turnL (l.length : Int) (i : Int) l := by
      intro hm
      have h1 := h.m1
      have := hg l.length (by omega) (Nat.le_refl _)
      rw [hcnt] at this
      unfold below at this
      have h2 : (turnL (l.length : Int) (i : Int) l).countP (fun w => decide (w < (l.length : Int))) = (turnL (l.length : Int) (i : Int) l).length := by
        have := List.countP_le_length (p := fun w => decide (w < (l.length : Int))) (l := turnL (l.length : Int) (i : Int) l)
        omega
      have := List.countP_eq_length.1 h2 _ hm
      simp at this
    have g1 := (turn_row _ (i : Int) l h).2 hno
    have hR := (row_iff _ _).1 g1
    refine ⟨g1, ?_⟩
    have hR' : Row ((turnL (l.length : Int) (i : Int) l).length : Int) (turnL (l.length : Int) (i : Int) l) := by rw [hlen]; exact hR
    have := (good_below _ hR').2 (fun k a b => by rw [← hcnt]; exact hg k a (by rw [hlen] at b; exact b))
    rw [hlen] at this
    exact this
end Go.Proofs.Ytfopeenjpdaacaa.L
