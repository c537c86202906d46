/- Coin systems: the amount that needs most coins, by slices.Max and slices.Index and by a loop. -/
import Derived.Test.YtgbalmjnjpfopaaLRefFew
import Derived.Test.YtgbalmjnjpfopaaPCf26
import Derived.Test.YtgbalmjnjpfopaaPCf27
namespace Go.Proofs.Ytgbalmjnjpfopaa.L
open Go.RowKit Go.Proofs.Ytgbalmjnjpfopaa.PC Go.Proofs.YtgbalmjnjpfopaaW.PrintWords Go.Proofs.YtgbalmjnjpfopaaW.PrintLast Go.Proofs.YtgbalmjnjpfopaaW.PrintMore Go.Proofs.Ytgbalmjnjpfopaa.M

theorem fold_mx : ∀ (l : List Int) (x : Int), (l.foldl (fun m x => mx m x) x ∈ x :: l) ∧ ∀ y ∈ x :: l, y ≤ l.foldl (fun m x => mx m x) x := by
  intro l
  induction l with
  | nil => intro x; simp
  | cons a l ih =>
    intro x
    obtain ⟨h1, h2⟩ := ih (mx x a)
    rw [List.foldl_cons]
    have e : mx x a = x ∨ mx x a = a := by unfold mx; split <;> simp
    have e2 : x ≤ mx x a ∧ a ≤ mx x a := by unfold mx; split <;> omega
    have h3 := h2 (mx x a) List.mem_cons_self
    constructor
    · rcases List.mem_cons.1 h1 with h | h
      · rw [h]
        rcases e with e | e
        · rw [e]; exact List.mem_cons_self
        · rw [e]; exact List.mem_cons_of_mem _ List.mem_cons_self
      · exact List.mem_cons_of_mem _ (List.mem_cons_of_mem _ h)
    · intro y hy
      rcases List.mem_cons.1 hy with rfl | hy
      · omega
      rcases List.mem_cons.1 hy with rfl | hy
      · omega
      exact h2 y (List.mem_cons_of_mem _ hy)
/-- the first place of the greatest number -/
structure FM (T : List Int) (b : Int) : Prop where
  lo : 0 ≤ b
  hi : b < T.length
  first : ∀ j, 0 ≤ j → j < b → rd T j < rd T b
  most : ∀ j, 0 ≤ j → j < (T.length : Int) → rd T j ≤ rd T b
theorem rd_in (T : List Int) (b : Int) (h0 : 0 ≤ b) (h1 : b < T.length) : rd T b ∈ T := by
  have h : b.toNat < T.length := by omega
  simp [rd, List.getD_eq_getElem?_getD, h]
theorem FM.max {T : List Int} {b : Int} (h : FM T b) : T.tail.foldl (fun m x => mx m x) (rd T 0) = rd T b := by
  obtain ⟨x, t, rfl⟩ : ∃ x t, T = x :: t := by
    cases T with
    | nil => have h1 := h.hi; have h2 := h.lo; simp at h1; omega
    | cons x t => exact ⟨x, t, rfl⟩
  have e : rd (x :: t) 0 = x := by simp [rd]
  rw [List.tail_cons, e]
  obtain ⟨h1, h2⟩ := fold_mx t x
  have h3 := h2 _ (rd_in _ b h.lo h.hi)
  obtain ⟨i, hi, hie⟩ := rd_mem h1
  have h4 := h.most (i : Int) (by omega) (by omega)
  omega
theorem rmost_loop (T : List Int) (n : Int) (hn : (T.length : Int) = n) (hn2 : n ≤ 1000000) (d : Nat) : ∀ q b : Int, 1 ≤ q → q + d = n → 0 ≤ b → b < q → (∀ j, 0 ≤ j → j < b → rd T j < rd T b) → (∀ j, 0 ≤ j → j < q → rd T j ≤ rd T b) →
    ∃ b', FM T b' ∧ Ev (fun k => pomaderef05_Most.l0 k n T b q) (rd T b', b', 0) := by
  induction d with
  | zero =>
    intro q b h1 hq hb0 hb f1 f2
    refine ⟨b, ⟨hb0, by omega, f1, fun j a c => f2 j a (by omega)⟩, Ev.step (fun k => ?_) (Ev.now _)⟩
    simp only [pomaderef05_Most.l0]
    rw [if_neg (by omega), if_pos (by omega), if_pos (by omega)]
  | succ d ih =>
    intro q b h1 hq hb0 hb f1 f2
    by_cases c : rd T q > rd T b
    · obtain ⟨b', h, e⟩ := ih (q + 1) q (by omega) (by omega) (by omega) (by omega) (fun j a g => by have := f2 j a g; omega) (fun j a g => by
        by_cases hj : j = q
        · rw [hj]; omega
        · have := f2 j a (by omega); omega)
      refine ⟨b', h, Ev.step (fun k => ?_) e⟩
      simp only [pomaderef05_Most.l0]
      rw [if_pos (by omega), if_pos (by omega), if_pos (by omega), if_pos (by omega), if_pos (by omega), if_pos c, w64 (by omega) (by omega)]
    · obtain ⟨b', h, e⟩ := ih (q + 1) b (by omega) (by omega) (by omega) (by omega) f1 (fun j a g => by
        by_cases hj : j = q
        · rw [hj]; omega
        · exact f2 j a (by omega))
      refine ⟨b', h, Ev.step (fun k => ?_) e⟩
      simp only [pomaderef05_Most.l0]
      rw [if_pos (by omega), if_pos (by omega), if_pos (by omega), if_pos (by omega), if_pos (by omega), if_neg c, w64 (by omega) (by omega)]
theorem index_loop (T : List Int) (hl : T.length ≤ 1000000) (b : Int) (h : FM T b) (d : Nat) : ∀ q : Int, 0 ≤ q → q + d = b → Ev (fun k => slices_Index_int_int.l0 k T (rd T b) (T.length : Int) q) b := by
  have := h.hi
  induction d with
  | zero =>
    intro q h0 hq
    obtain rfl : q = b := by omega
    refine Ev.step (fun k => ?_) (Ev.now _)
    simp only [slices_Index_int_int.l0]
    rw [if_pos (by omega), if_pos h0, if_pos (by omega), if_pos trivial]
  | succ d ih =>
    intro q h0 hq
    have hf := h.first q h0 (by omega)
    refine Ev.step (fun k => ?_) (ih (q + 1) (by omega) (by omega))
    simp only [slices_Index_int_int.l0]
    rw [if_pos (by omega), if_pos h0, if_pos (by omega), if_neg (by omega), w64 (by omega) (by omega)]
theorem most_both (l : List Int) (a : Int) : ∃ r, Ev (fun k => coins_Most.f k l a) r ∧ Ev (fun k => pomaderef05_Most.f k l a) r := by
  by_cases hs : Sys l
  · by_cases h1 : a < 1
    · refine ⟨(0, 0, 4), Ev.bind ((valid_ev l).1 hs) ?_, Ev.bind ((issys_ev l).1 hs) ?_⟩
      · simp only [if_true, if_pos h1]
        exact Ev.step (fun k => by simp only [coins_Most.j0]; rfl) (Ev.now _)
      · simp only [if_true, if_pos h1]
        exact Ev.step (fun k => by simp only [pomaderef05_Most.j0]; rfl) (Ev.now _)
    by_cases h2 : a > 100000
    · refine ⟨(0, 0, 4), Ev.bind ((valid_ev l).1 hs) ?_, Ev.bind ((issys_ev l).1 hs) ?_⟩
      · simp only [if_true, if_neg h1, decide_eq_true h2]
        exact Ev.step (fun k => by simp only [coins_Most.j0]; rfl) (Ev.now _)
      · simp only [if_true, if_neg h1, decide_eq_true h2]
        exact Ev.step (fun k => by simp only [pomaderef05_Most.j0]; rfl) (Ev.now _)
    have hw : wrap64 (a - 1) = a - 1 := w64 (by omega) (by omega)
    obtain ⟨T, hT⟩ : ∃ T, tabF l (a - 1) = T := ⟨_, rfl⟩
    have hl : (T.length : Int) = a := by rw [← hT, tabF_len]; omega
    obtain ⟨b, hb, hev⟩ := rmost_loop T a hl (by omega) (a - 1).toNat 1 0 (by omega) (by omega) (by omega) (by omega) (fun j a c => by omega) (fun j a c => by rw [show j = 0 from by omega]; omega)
    refine ⟨(rd T b, b, 0), Ev.bind ((valid_ev l).1 hs) ?_, Ev.bind ((issys_ev l).1 hs) ?_⟩
    · simp only [if_true, if_neg h1, decide_eq_false h2]
      refine Ev.step (f := fun k => (coins_fewest.f k l (a - 1)).bind fun t432 => ((slices_Max_int_int.f k t432).bind fun t435 => ((slices_Index_int_int.f k t432 t435).bind fun t436 => (some (t435, t436, 0))))) (fun k => by simp only [coins_Most.j0]; rw [if_neg (by simp), hw]) ?_
      have e := fewest_ev l hs (a - 1) (by omega) (by omega)
      rw [hT] at e
      refine Ev.bind e ?_
      refine Ev.bind (g := fun k => slices_Max_int_int.f k T) (a := rd T b) ?_ (Ev.bind ?_ (Ev.now _))
      · refine Ev.congr (fun k => ?_) (Ev.now _)
        unfold slices_Max_int_int.f
        rw [if_pos (by omega), hb.max]
      · exact index_loop T (by omega) b hb b.toNat 0 (by omega) (by have := hb.lo; omega)
    · simp only [if_true, if_neg h1, decide_eq_false h2]
      refine Ev.step (f := fun k => (pomaderef05_Few.f k l (a - 1)).bind fun t => pomaderef05_Most.l0 k a t 0 1) (fun k => by simp only [pomaderef05_Most.j0]; rw [if_neg (by simp), hw]) ?_
      have e := few_ev l hs (a - 1) (by omega) (by omega)
      rw [hT] at e
      exact Ev.bind e hev
  · exact ⟨(0, 0, 2), Ev.bind ((valid_ev l).2 hs) (Ev.now _), Ev.bind ((issys_ev l).2 hs) (Ev.now _)⟩
end Go.Proofs.Ytgbalmjnjpfopaa.L
