/- Trees of wishes, wishes of trees, inversions: the program and the specification. -/
import Derived.Test.YtfopeenjpdaacaaLPark
import Derived.Test.YtfopeenjpdaacaaMWood
import Derived.Test.YtfopeenjpdaacaaPCf38
import Derived.Test.YtfopeenjpdaacaaPCf39
import Derived.Test.YtfopeenjpdaacaaPCf43
import Derived.Test.YtfopeenjpdaacaaPCf41
import Derived.Test.YtfopeenjpdaacaaPCf42
import Derived.Test.YtfopeenjpdaacaaPCf44
namespace Go.Proofs.Ytfopeenjpdaacaa.L
open Go.RowKit Go.Proofs.Ytfopeenjpdaacaa.PC Go.Proofs.YtfopeenjpdaacaaW.PrintWords Go.Proofs.YtfopeenjpdaacaaW.PrintLast Go.Proofs.Ytfopeenjpdaacaa.MWood
/-! ### the errors of a tree -/
def treeV (t : List Int) : Int := if t.length = 0 ∨ t.length > 30 then 3 else if t.any (fun x => decide (x < 0 ∨ (t.length : Int) < x)) = true then 2 else if rootsFrom t 0 t.length = true then 0 else 2
theorem rooted_ev (t : List Int) : chairs_rooted.f t = some (treeV t) := by
  unfold chairs_rooted.f treeV
  split
  · rfl
  · split
    · rfl
    · rfl
structure Wood (t : List Int) : Prop where
  n1 : 1 ≤ t.length
  n30 : t.length ≤ 30
  rng : ∀ i, i < t.length → 0 ≤ t.getD i 0 ∧ t.getD i 0 ≤ (t.length : Int)
  roots : rootsFrom t 0 t.length = true
theorem rng_of {t : List Int} (h : t.any (fun x => decide (x < 0 ∨ (t.length : Int) < x)) = false) : ∀ i, i < t.length → 0 ≤ t.getD i 0 ∧ t.getD i 0 ≤ (t.length : Int) := fun i hi => by
  have h := List.any_eq_false.1 h (t.getD i 0) (by simp [List.getD_eq_getElem?_getD, hi])
  rw [decide_eq_true_eq] at h
  omega
theorem tree_iff (t : List Int) : treeV t = 0 ↔ Wood t := by
  unfold treeV
  constructor
  · intro h
    split at h
    · cases h
    · split at h
      · cases h
      · split at h
        · rename_i h1 h2 h3
          exact ⟨by omega, by omega, rng_of (Bool.eq_false_iff.2 h2), h3⟩
        · cases h
  · rintro ⟨a, b, c, d⟩
    rw [if_neg (by omega), if_neg, if_pos d]
    rw [Bool.not_eq_true, List.any_eq_false]
    intro x hx
    obtain ⟨i, hi, e⟩ := List.mem_iff_getElem.1 hx
    have := c i hi
    rw [List.getD_eq_getElem?_getD, List.getElem?_eq_getElem hi] at this
    simp [e] at this
    simp
    omega
theorem treeV_le (t : List Int) : 0 ≤ treeV t ∧ treeV t ≤ 3 := by unfold treeV; repeat' split <;> omega
/-! the specification's way up -/
theorem is_climb (t : List Int) (hl : t.length ≤ 1000000) (hr : ∀ i, i < t.length → 0 ≤ t.getD i 0 ∧ t.getD i 0 ≤ (t.length : Int)) (x4 r : Int) (d : Nat) : ∀ (q at_ : Int), 0 ≤ q → q + d = t.length + 1 → 0 ≤ at_ → at_ ≤ (t.length : Int) →
    (if chairs_rooted.climb t d at_ = true then Ev (fun k => pomaderef03_IsTree.l1 k t (wrap64 (x4 + 1))) r else r = 2) → Ev (fun k => pomaderef03_IsTree.l2 k t x4 at_ q) r := by
  induction d with
  | zero =>
    intro q at_ h0 hq h1 h2 h
    by_cases e : at_ = 0
    · subst e
      rw [if_pos (climb_root t 0)] at h
      refine Ev.step (fun k => ?_) h
      simp only [pomaderef03_IsTree.l2]
      rw [if_neg (by omega), if_pos trivial]
    · rw [if_neg (by simp [chairs_rooted.climb, e])] at h
      subst h
      refine Ev.step (f := fun _ => some 2) (fun k => ?_) (Ev.now _)
      simp only [pomaderef03_IsTree.l2]
      rw [if_neg (by omega), if_neg e]
  | succ d ih =>
    intro q at_ h0 hq h1 h2 h
    by_cases e : at_ = 0
    · subst e
      rw [if_pos (climb_root t _)] at h
      refine Ev.step (fun k => ?_) h
      simp only [pomaderef03_IsTree.l2]
      rw [if_pos (by omega), if_pos trivial]
    · rw [climb_step t d at_ e] at h
      have hb := hr (at_ - 1).toNat (by omega)
      have hb' : 0 ≤ rd t (at_ - 1) ∧ rd t (at_ - 1) ≤ (t.length : Int) := hb
      refine Ev.step (fun k => ?_) (ih (q + 1) (rd t (at_ - 1)) (by omega) (by omega) hb'.1 hb'.2 h)
      simp only [pomaderef03_IsTree.l2]
      rw [if_pos (by omega), if_neg e, w64 (x := at_ - 1) (by omega) (by omega), if_pos (by omega), if_pos (by omega), w64 (x := q + 1) (by omega) (by omega)]
theorem is_all (t : List Int) (hl : t.length ≤ 1000000) (hr : ∀ i, i < t.length → 0 ≤ t.getD i 0 ∧ t.getD i 0 ≤ (t.length : Int)) (d : Nat) : ∀ i : Nat, i + d = t.length → Ev (fun k => pomaderef03_IsTree.l1 k t ((i : Int) + 1)) (if rootsFrom t i d = true then 0 else 2) := by
  induction d with
  | zero =>
    intro i hi
    rw [rootsFrom_zero, if_pos rfl]
    refine Ev.step (f := fun _ => some 0) (fun k => ?_) (Ev.now _)
    simp only [pomaderef03_IsTree.l1]
    rw [if_neg (by omega)]
  | succ d ih =>
    intro i hi
    have h1 := ih (i + 1) (by omega)
    rw [rootsFrom_succ]
    refine Ev.step (fun k => ?_) (is_climb t hl hr ((i : Int) + 1) _ (t.length + 1) 0 ((i : Int) + 1) (by omega) (by omega) (by omega) (by omega) ?_)
    · simp only [pomaderef03_IsTree.l1]
      rw [if_pos (by omega)]
    · by_cases c : chairs_rooted.climb t (t.length + 1) ((i : Int) + 1) = true
      · rw [if_pos c, climb_enough t t.length hr ((i : Int) + 1) (by omega) (by omega) _ c, Bool.true_and, w64 (by omega) (by omega)]
        exact h1
      · rw [if_neg c]
        have : chairs_rooted.climb t t.length ((i : Int) + 1) = false := Bool.eq_false_iff.2 fun h => c (climb_more t _ _ h)
        rw [this, Bool.false_and]
        rfl
theorem is_rng (t : List Int) (hl : t.length ≤ 1000000) (r : Int) (hr : t.any (fun x => decide (x < 0 ∨ (t.length : Int) < x)) = false → Ev (fun k => pomaderef03_IsTree.l1 k t 1) r) (d : Nat) : ∀ q : Nat, q + d = t.length → (t.take q).any (fun x => decide (x < 0 ∨ (t.length : Int) < x)) = false → Ev (fun k => pomaderef03_IsTree.l0 k t (q : Int)) (if t.any (fun x => decide (x < 0 ∨ (t.length : Int) < x)) = true then 2 else r) := by
  induction d with
  | zero =>
    intro q hq h
    rw [List.take_of_length_le (by omega)] at h
    rw [h, if_neg (by simp)]
    refine Ev.step (fun k => ?_) (hr h)
    simp only [pomaderef03_IsTree.l0]
    rw [if_neg (by omega)]
  | succ d ih =>
    intro q hq h
    have hm := rd_mem t q (by omega)
    have e2 : t.take (q + 1) = t.take q ++ [rd t (q : Int)] := by
      rw [List.take_succ_eq_append_getElem (by omega)]; simp [rd, List.getD_eq_getElem?_getD, show q < t.length by omega]
    by_cases c : rd t (q : Int) < 0 ∨ (t.length : Int) < rd t (q : Int)
    · have : t.any (fun x => decide (x < 0 ∨ (t.length : Int) < x)) = true := List.any_eq_true.2 ⟨_, hm, decide_eq_true c⟩
      rw [if_pos this]
      refine Ev.step (f := fun _ => some 2) (fun k => ?_) (Ev.now _)
      simp only [pomaderef03_IsTree.l0]
      rw [if_pos (by omega), if_pos (by omega)]
      by_cases c1 : rd t (q : Int) < 0
      · rw [if_pos c1]
      · rw [if_neg c1, if_pos (by omega)]
    · refine Ev.step (fun k => ?_) (ih (q + 1) (by omega) (by rw [e2, List.any_append, h]; simp; omega))
      simp only [pomaderef03_IsTree.l0]
      rw [if_pos (by omega), if_pos (by omega), if_neg (by omega), if_neg (by omega), w64 (by omega) (by omega)]
      rfl
theorem isTree_ev (t : List Int) (hl : t.length ≤ 1000000) : Ev (fun k => pomaderef03_IsTree.f k t) (treeV t) := by
  unfold treeV
  by_cases c1 : t.length = 0
  · rw [if_pos (Or.inl c1)]
    refine Ev.congr (fun k => by unfold pomaderef03_IsTree.f; rw [if_pos (by omega)]) (Ev.step (f := fun _ => some 3) (fun k => ?_) (Ev.now _))
    simp only [pomaderef03_IsTree.j0]; rw [if_pos trivial]
  by_cases c2 : t.length > 30
  · rw [if_pos (Or.inr c2)]
    refine Ev.congr (fun k => by unfold pomaderef03_IsTree.f; rw [if_neg (by omega), decide_eq_true (by omega)]) (Ev.step (f := fun _ => some 3) (fun k => ?_) (Ev.now _))
    simp only [pomaderef03_IsTree.j0]; rw [if_pos trivial]
  rw [if_neg (by omega)]
  refine Ev.congr (fun k => by unfold pomaderef03_IsTree.f; rw [if_neg (by omega), decide_eq_false (by omega)]) ?_
  refine Ev.step (fun k => ?_) (is_rng t hl _ (fun h => is_all t hl (rng_of h) t.length 0 (by omega)) t.length 0 (by omega) (by simp))
  simp only [pomaderef03_IsTree.j0]; rw [if_neg (by simp)]
  rfl
/-! ### the queue of the specification -/
theorem row_fst_q (k v : Int) : ∀ (ws : List Int) (c : Nat) (out q q' : List Int), (chairs_Tree.row k v ws c out q).1 = (chairs_Tree.row k v ws c out q').1
  | [], _, _, _, _ => rfl
  | x :: xs, c, out, q, q' => by simp only [chairs_Tree.row]; split <;> exact row_fst_q k v xs _ _ _ _
theorem rtree_row (w : List Int) (hl : w.length ≤ 1000000) (r : List Int × Int) (kk : Int) (k0 : 0 ≤ kk) (node : Int) (d : Nat) : ∀ (c : Nat) (out q : List Int), c + d = w.length → out.length = w.length → kk < (q.length : Int) → rd q kk = node → q.length + d ≤ 1000000000000 →
    Ev (fun k => pomaderef03_Tree.l0 k w (chairs_Tree.row kk node (w.drop c) c out q).1 (chairs_Tree.row kk node (w.drop c) c out q).2 (wrap64 (kk + 1))) r → Ev (fun k => pomaderef03_Tree.l1 k w out q kk (c : Int)) r := by
  induction d with
  | zero =>
    intro c out q hc ho hq hn hb h
    rw [List.drop_of_length_le (by omega)] at h
    refine Ev.step (fun k => ?_) h
    simp only [pomaderef03_Tree.l1]
    rw [if_neg (by omega)]
    rfl
  | succ d ih =>
    intro c out q hc ho hq hn hb h
    rw [drop_rd w c (by omega)] at h
    simp only [chairs_Tree.row] at h
    by_cases e : rd w (c : Int) = kk
    · rw [if_pos e] at h
      refine Ev.step (fun k => ?_) (ih (c + 1) (out.set c node) (q ++ [(c : Int) + 1]) (by omega) (by simpa using ho) (by simp; omega) (by
        rw [← hn]; unfold rd; rw [List.getD_eq_getElem?_getD, List.getElem?_append_left (by omega), ← List.getD_eq_getElem?_getD]) (by simp; omega) h)
      simp only [pomaderef03_Tree.l1]
      rw [if_pos (by omega), if_pos (by omega), if_pos e, if_pos k0, if_pos hq, if_pos (by omega), if_pos (by omega), hn, w64 (x := (c : Int) + 1) (by omega) (by omega), Int.toNat_natCast]
      rfl
    · rw [if_neg e] at h
      refine Ev.step (fun k => ?_) (ih (c + 1) out q (by omega) ho hq hn (by omega) h)
      simp only [pomaderef03_Tree.l1]
      rw [if_pos (by omega), if_pos (by omega), if_neg e, w64 (x := (c : Int) + 1) (by omega) (by omega)]
      rfl
theorem row_qlen (k v : Int) (ws : List Int) (c : Nat) (out q : List Int) : q.length ≤ (chairs_Tree.row k v ws c out q).2.length ∧ (chairs_Tree.row k v ws c out q).2.length ≤ q.length + ws.length := by
  rw [row_snd, List.length_append, kids_len]
  have : ws.countP (fun x => decide (x = k)) ≤ ws.length := List.countP_le_length
  omega
theorem rtree_go (w : List Int) (hl : w.length ≤ 1000) (t : List Int) (d : Nat) : ∀ (kk : Nat) (out q : List Int), out.length = w.length → kk ≤ 1000000 → d ≤ 1000000 - kk → q.length ≤ 1000 * kk + 1 → chairs_Tree.go w (d + 1) (kk : Int) out (q.drop kk) = some t → Ev (fun k => pomaderef03_Tree.l0 k w out q (kk : Int)) (t, 0) := by
  induction d with
  | zero =>
    intro kk out q ho hk hd hq h
    by_cases c : kk < q.length
    · rw [drop_rd q kk c] at h
      simp [chairs_Tree.go] at h
    · rw [List.drop_of_length_le (by omega)] at h
      simp only [chairs_Tree.go] at h
      obtain rfl := Option.some.inj h
      refine Ev.step (f := fun _ => some (out, 0)) (fun k => ?_) (Ev.now _)
      simp only [pomaderef03_Tree.l0]
      rw [if_neg (by omega)]
  | succ d ih =>
    intro kk out q ho hk hd hq h
    by_cases c : kk < q.length
    · rw [drop_rd q kk c] at h
      simp only [chairs_Tree.go] at h
      obtain ⟨l1, l2⟩ := row_qlen (kk : Int) (rd q (kk : Int)) w 0 out q
      have hsh : (chairs_Tree.row (kk : Int) (rd q (kk : Int)) w 0 out (q.drop (kk + 1))).2 = (chairs_Tree.row (kk : Int) (rd q (kk : Int)) w 0 out q).2.drop (kk + 1) := by
        rw [row_snd, row_snd, List.drop_append_of_le_length (by omega)]
      rw [hsh, row_fst_q _ _ w 0 out (q.drop (kk + 1)) q, show ((kk : Int) + 1) = ((kk + 1 : Nat) : Int) by omega] at h
      have h2 := ih (kk + 1) _ _ (by rw [MWood.row_len]; exact ho) (by omega) (by omega) (by omega) h
      refine Ev.step (fun k => ?_) (rtree_row w (by omega) (t, 0) (kk : Int) (by omega) _ w.length 0 out q (by omega) ho (by omega) rfl (by omega) (by
        rw [w64 (by omega) (by omega)]
        exact h2))
      simp only [pomaderef03_Tree.l0]
      rw [if_pos (by omega)]
      rfl
    · rw [List.drop_of_length_le (by omega)] at h
      simp only [chairs_Tree.go] at h
      obtain rfl := Option.some.inj h
      refine Ev.step (f := fun _ => some (out, 0)) (fun k => ?_) (Ev.now _)
      simp only [pomaderef03_Tree.l0]
      rw [if_neg (by omega)]
theorem rwish_row (t : List Int) (hl : t.length ≤ 1000000) (r : List Int × Int) (kk : Int) (k0 : 0 ≤ kk) (node : Int) (d : Nat) : ∀ (c : Nat) (out q : List Int), c + d = t.length → out.length = t.length → kk < (q.length : Int) → rd q kk = node → q.length + d ≤ 1000000000000 →
    Ev (fun k => pomaderef03_Wishes.l0 k t (chairs_Tree.row node kk (t.drop c) c out q).1 (chairs_Tree.row node kk (t.drop c) c out q).2 (wrap64 (kk + 1))) r → Ev (fun k => pomaderef03_Wishes.l1 k t out q kk (c : Int)) r := by
  induction d with
  | zero =>
    intro c out q hc ho hq hn hb h
    rw [List.drop_of_length_le (by omega)] at h
    refine Ev.step (fun k => ?_) h
    simp only [pomaderef03_Wishes.l1]
    rw [if_neg (by omega)]
    rfl
  | succ d ih =>
    intro c out q hc ho hq hn hb h
    rw [drop_rd t c (by omega)] at h
    simp only [chairs_Tree.row] at h
    by_cases e : rd t (c : Int) = node
    · rw [if_pos e] at h
      refine Ev.step (fun k => ?_) (ih (c + 1) (out.set c kk) (q ++ [(c : Int) + 1]) (by omega) (by simpa using ho) (by simp; omega) (by
        rw [← hn]; unfold rd; rw [List.getD_eq_getElem?_getD, List.getElem?_append_left (by omega), ← List.getD_eq_getElem?_getD]) (by simp; omega) h)
      simp only [pomaderef03_Wishes.l1]
      rw [if_pos (by omega), if_pos (by omega), if_pos k0, if_pos hq, if_pos (by rw [hn]; exact e), if_pos (by omega), if_pos (by omega), w64 (x := (c : Int) + 1) (by omega) (by omega), Int.toNat_natCast]
      rfl
    · rw [if_neg e] at h
      refine Ev.step (fun k => ?_) (ih (c + 1) out q (by omega) ho hq hn (by omega) h)
      simp only [pomaderef03_Wishes.l1]
      rw [if_pos (by omega), if_pos (by omega), if_pos k0, if_pos hq, if_neg (by rw [hn]; exact e), w64 (x := (c : Int) + 1) (by omega) (by omega)]
      rfl
theorem rwish_go (t : List Int) (hl : t.length ≤ 1000) (w : List Int) (d : Nat) : ∀ (kk : Nat) (out q : List Int), out.length = t.length → kk ≤ 1000000 → d ≤ 1000000 - kk → q.length ≤ 1000 * kk + 1 → chairs_Wishes.go t (d + 1) (kk : Int) out (q.drop kk) = some w → Ev (fun k => pomaderef03_Wishes.l0 k t out q (kk : Int)) (w, 0) := by
  induction d with
  | zero =>
    intro kk out q ho hk hd hq h
    by_cases c : kk < q.length
    · rw [drop_rd q kk c] at h
      simp [chairs_Wishes.go] at h
    · rw [List.drop_of_length_le (by omega)] at h
      simp only [chairs_Wishes.go] at h
      obtain rfl := Option.some.inj h
      refine Ev.step (f := fun _ => some (out, 0)) (fun k => ?_) (Ev.now _)
      simp only [pomaderef03_Wishes.l0]
      rw [if_neg (by omega)]
  | succ d ih =>
    intro kk out q ho hk hd hq h
    by_cases c : kk < q.length
    · rw [drop_rd q kk c] at h
      simp only [chairs_Wishes.go] at h
      obtain ⟨l1, l2⟩ := row_qlen (rd q (kk : Int)) (kk : Int) t 0 out q
      have hsh : (chairs_Tree.row (rd q (kk : Int)) (kk : Int) t 0 out (q.drop (kk + 1))).2 = (chairs_Tree.row (rd q (kk : Int)) (kk : Int) t 0 out q).2.drop (kk + 1) := by
        rw [row_snd, row_snd, List.drop_append_of_le_length (by omega)]
      rw [hsh, row_fst_q _ _ t 0 out (q.drop (kk + 1)) q, show ((kk : Int) + 1) = ((kk + 1 : Nat) : Int) by omega] at h
      have h2 := ih (kk + 1) _ _ (by rw [MWood.row_len]; exact ho) (by omega) (by omega) (by omega) h
      refine Ev.step (fun k => ?_) (rwish_row t (by omega) (w, 0) (kk : Int) (by omega) _ t.length 0 out q (by omega) ho (by omega) rfl (by omega) (by
        rw [w64 (by omega) (by omega)]
        exact h2))
      simp only [pomaderef03_Wishes.l0]
      rw [if_pos (by omega)]
      rfl
    · rw [List.drop_of_length_le (by omega)] at h
      simp only [chairs_Wishes.go] at h
      obtain rfl := Option.some.inj h
      refine Ev.step (f := fun _ => some (out, 0)) (fun k => ?_) (Ev.now _)
      simp only [pomaderef03_Wishes.l0]
      rw [if_neg (by omega)]
/-! ### Tree and Wishes, whole -/
def wholeV (l : List Int) : Int := if l.length = 0 ∨ l.length > 30 then 3 else rowV (l.length : Int) l
theorem csame_ev (l : List Int) : chairs_same.f l = some (wholeV l) := by
  unfold chairs_same.f wholeV
  by_cases c1 : l.length = 0
  · rw [if_pos (Or.inl c1), if_pos (by omega)]
  by_cases c2 : l.length > 30
  · rw [if_pos (Or.inr c2), if_neg (by omega), if_pos (by omega)]
  · rw [if_neg (by omega), if_neg (by omega), if_neg (by omega), wished_ev]
    rfl
theorem whole_iff (l : List Int) : wholeV l = 0 ↔ Row (l.length : Int) l := by
  unfold wholeV
  constructor
  · intro h
    split at h
    · cases h
    · exact (row_iff _ _).1 h
  · intro h
    have := h.m1
    have := h.m30
    rw [if_neg (by omega)]
    exact (row_iff _ _).2 h
theorem good_has_run {l : List Int} (h : Row (l.length : Int) l) (hg : (sitV (l.length : Int) l).2 = true) : ∃ t Q L, Run l t Q L ∧ L (l.length + 1) = l.length + 1 :=
  good_run l h.all ((good_below l h).1 hg)
theorem run_row {w t Q : List Int} {L : Nat → Nat} (R : Run w t Q L) (h1 : 1 ≤ w.length) (h30 : w.length ≤ 30) : Row (w.length : Int) w :=
  ⟨by omega, by omega, by omega, fun x hx => by
    obtain ⟨i, hi, e⟩ := List.mem_iff_getElem.1 hx
    have := R.rng i hi
    rw [List.getD_eq_getElem?_getD, List.getElem?_eq_getElem hi] at this
    simpa [e] using this⟩
theorem run_good {w t Q : List Int} {L : Nat → Nat} (R : Run w t Q L) (h1 : 1 ≤ w.length) (h30 : w.length ≤ 30) : (sitV (w.length : Int) w).2 = true :=
  (good_below w (run_row R h1 h30)).2 fun k _ hk => R.good k hk
theorem Tree_run {w t Q : List Int} {L : Nat → Nat} (R : Run w t Q L) (h1 : 1 ≤ w.length) (h30 : w.length ≤ 30) : Ev (fun k => chairs_Tree.f k w) (t, 0) := by
  have hr := run_row R h1 h30
  refine Ev.bind (Ev.congr (fun _ => csame_ev w) (Ev.now _)) ?_
  rw [(whole_iff w).2 hr]
  refine Ev.congr (fun k => if_pos rfl) (Ev.bind (psit_ev _ w hr) ?_)
  refine Ev.congr (fun k => if_pos (run_good R h1 h30)) ?_
  rw [R.tree]
  exact Ev.now _
theorem rTree_run {w t Q : List Int} {L : Nat → Nat} (R : Run w t Q L) (h1 : 1 ≤ w.length) (h30 : w.length ≤ 30) : Ev (fun k => pomaderef03_Tree.f k w) (t, 0) := by
  have hr := run_row R h1 h30
  refine Ev.bind (whole_ev w (by omega)) ?_
  rw [show (if w.length = 0 ∨ w.length > 30 then 3 else rowV (w.length : Int) w) = 0 from (whole_iff w).2 hr]
  refine Ev.congr (fun k => if_pos rfl) (Ev.bind (rsit_ev _ w hr) ?_)
  refine Ev.congr (fun k => if_pos (run_good R h1 h30)) ?_
  refine Ev.congr (fun k => by rw [if_pos (by omega), if_pos (by omega)]) ?_
  have := R.tree
  exact rtree_go w (by omega) t (w.length + 1) 0 _ [0] (by simp) (by omega) (by omega) (by simp) (by simpa using this)
theorem Wishes_run {w t Q : List Int} {L : Nat → Nat} (R : Run w t Q L) (hv : treeV t = 0) : Ev (fun k => chairs_Wishes.f k t) (w, 0) := by
  refine Ev.congr (fun k => ?_) (Ev.now (w, 0))
  unfold chairs_Wishes.f
  rw [rooted_ev, hv, Option.bind_some, if_pos rfl, R.wishes]
  rfl
theorem rWishes_run {w t Q : List Int} {L : Nat → Nat} (R : Run w t Q L) (hv : treeV t = 0) : Ev (fun k => pomaderef03_Wishes.f k t) (w, 0) := by
  have hw := (tree_iff t).1 hv
  have := hw.n30
  refine Ev.bind (isTree_ev t (by omega)) ?_
  rw [hv]
  refine Ev.congr (fun k => by rw [if_pos rfl, if_pos (by omega), if_pos (by omega)]) ?_
  have := R.wishes
  exact rwish_go t (by omega) w (t.length + 1) 0 _ [0] (by simp) (by omega) (by omega) (by simp) (by simpa using this)
theorem wood_has_run {t : List Int} (h : Wood t) : ∃ w Q L, Run w t Q L ∧ L (w.length + 1) = w.length + 1 := tree_run t h.rng h.roots
theorem run_wood {w t Q : List Int} {L : Nat → Nat} (R : Run w t Q L) (hL : L (w.length + 1) = w.length + 1) (h1 : 1 ≤ w.length) (h30 : w.length ≤ 30) : treeV t = 0 := by
  have := R.lt
  exact (tree_iff t).2 ⟨by omega, by omega, fun i hi => by
    have := R.t_rng hL i (by omega)
    omega, R.rooted hL⟩
/-- Tree, by the program and by the specification -/
theorem tree_both (w : List Int) (hl : w.length ≤ 1000000) : ∃ r, Ev (fun k => chairs_Tree.f k w) r ∧ Ev (fun k => pomaderef03_Tree.f k w) r ∧ r.1.length ≤ w.length ∧ (r.2 = 0 → ∃ Q L, Run w r.1 Q L ∧ L (w.length + 1) = w.length + 1 ∧ 1 ≤ w.length ∧ w.length ≤ 30) := by
  by_cases h : wholeV w = 0
  · have hr := (whole_iff w).1 h
    have h1 := hr.m1
    have h30 := hr.m30
    by_cases hg : (sitV (w.length : Int) w).2 = true
    · obtain ⟨t, Q, L, R, hL⟩ := good_has_run hr hg
      exact ⟨(t, 0), Tree_run R (by omega) (by omega), rTree_run R (by omega) (by omega), by rw [R.lt]; exact Nat.le_refl _, fun _ => ⟨Q, L, R, hL, by omega, by omega⟩⟩
    · refine ⟨([], 10), ?_, ?_, by simp, fun e => by cases e⟩
      · refine Ev.bind (Ev.congr (fun _ => csame_ev w) (Ev.now _)) ?_
        rw [h]
        exact Ev.congr (fun k => if_pos rfl) (Ev.bind (psit_ev _ w hr) (Ev.congr (fun k => if_neg hg) (Ev.now _)))
      · refine Ev.bind (whole_ev w (by omega)) ?_
        rw [show (if w.length = 0 ∨ w.length > 30 then 3 else rowV (w.length : Int) w) = 0 from h]
        exact Ev.congr (fun k => if_pos rfl) (Ev.bind (rsit_ev _ w hr) (Ev.congr (fun k => if_neg hg) (Ev.now _)))
  · refine ⟨([], wholeV w), ?_, ?_, by simp, fun e => absurd e h⟩
    · exact Ev.bind (Ev.congr (fun _ => csame_ev w) (Ev.now _)) (Ev.congr (fun k => if_neg h) (Ev.now _))
    · exact Ev.bind (whole_ev w hl) (Ev.congr (fun k => if_neg h) (Ev.now _))
/-- Wishes, by the program and by the specification -/
theorem wishes_both (t : List Int) (hl : t.length ≤ 1000000) : ∃ r, Ev (fun k => chairs_Wishes.f k t) r ∧ Ev (fun k => pomaderef03_Wishes.f k t) r ∧ r.1.length ≤ t.length ∧ r.2 = treeV t ∧ (r.2 = 0 → ∃ Q L, Run r.1 t Q L ∧ L (r.1.length + 1) = r.1.length + 1) ∧ (r.2 ≠ 0 → r.1 = []) := by
  by_cases h : treeV t = 0
  · obtain ⟨w, Q, L, R, hL⟩ := wood_has_run ((tree_iff t).1 h)
    exact ⟨(w, 0), Wishes_run R h, rWishes_run R h, by rw [R.lt]; exact Nat.le_refl _, h.symm, fun _ => ⟨Q, L, R, hL⟩, fun e => absurd rfl e⟩
  · refine ⟨([], treeV t), ?_, ?_, by simp, rfl, fun e => absurd e h, fun _ => rfl⟩
    · refine Ev.congr (fun k => ?_) (Ev.now ([], treeV t))
      unfold chairs_Wishes.f
      rw [rooted_ev, Option.bind_some, if_neg h]
    · exact Ev.bind (isTree_ev t hl) (Ev.congr (fun k => if_neg h) (Ev.now _))
/-! ### inversions -/
/-- the ways up from one node: how many greater ones are met -/
def invc (t : List Int) (j : Int) : Nat → Int → Int → Int
  | 0, _, acc => acc
  | d + 1, at_, acc => if at_ = 0 then acc else invc t j d (rd t (at_ - 1)) (if at_ > j then wrap64 (acc + 1) else acc)
theorem inv_in (t : List Int) (hl : t.length ≤ 1000000) (hr : ∀ i, i < t.length → 0 ≤ t.getD i 0 ∧ t.getD i 0 ≤ (t.length : Int)) (j : Int) (r : Int × Int) (d : Nat) : ∀ (at_ acc : Int), 0 ≤ at_ → at_ ≤ (t.length : Int) → chairs_rooted.climb t d at_ = true →
    (Ev (fun k => chairs_Inversions.l0 k t (invc t j d at_ acc) (wrap64 (j + 1))) r → Ev (fun k => chairs_Inversions.l1 k t acc j at_) r) ∧ (Ev (fun k => pomaderef03_Inversions.l0 k t (invc t j d at_ acc) (wrap64 (j + 1))) r → Ev (fun k => pomaderef03_Inversions.l1 k t acc j at_) r) := by
  induction d with
  | zero =>
    intro at_ acc h1 h2 hc
    have e : at_ = 0 := by simpa [chairs_rooted.climb] using hc
    subst e
    refine ⟨fun h => Ev.step (fun k => ?_) h, fun h => Ev.step (fun k => ?_) h⟩
    · simp only [chairs_Inversions.l1]; rw [if_pos trivial]; rfl
    · simp only [pomaderef03_Inversions.l1]; rw [if_pos trivial]; rfl
  | succ d ih =>
    intro at_ acc h1 h2 hc
    by_cases e : at_ = 0
    · subst e
      refine ⟨fun h => Ev.step (fun k => ?_) h, fun h => Ev.step (fun k => ?_) h⟩
      · simp only [chairs_Inversions.l1]; rw [if_pos trivial]; rfl
      · simp only [pomaderef03_Inversions.l1]; rw [if_pos trivial]; rfl
    · have hb : 0 ≤ rd t (at_ - 1) ∧ rd t (at_ - 1) ≤ (t.length : Int) := hr (at_ - 1).toNat (by omega)
      rw [climb_step t d at_ e] at hc
      have hi := ih (rd t (at_ - 1)) (if at_ > j then wrap64 (acc + 1) else acc) hb.1 hb.2 hc
      have e2 : invc t j (d + 1) at_ acc = invc t j d (rd t (at_ - 1)) (if at_ > j then wrap64 (acc + 1) else acc) := by rw [invc, if_neg e]
      rw [e2]
      refine ⟨fun h => Ev.step (fun k => ?_) (hi.1 h), fun h => Ev.step (fun k => ?_) (hi.2 h)⟩
      · simp only [chairs_Inversions.l1]
        rw [if_neg e, w64 (x := at_ - 1) (by omega) (by omega)]
        by_cases g : at_ > j
        · rw [if_pos g, if_pos g, if_pos (by omega), if_pos (by omega)]
        · rw [if_neg g, if_neg g, if_pos (by omega), if_pos (by omega)]
      · simp only [pomaderef03_Inversions.l1]
        rw [if_neg e, w64 (x := at_ - 1) (by omega) (by omega)]
        by_cases g : at_ > j
        · rw [if_pos g, if_pos g, if_pos (by omega), if_pos (by omega)]
        · rw [if_neg g, if_neg g, if_pos (by omega), if_pos (by omega)]
theorem inv_out (t : List Int) (h : Wood t) (d : Nat) : ∀ (i : Nat) (acc : Int), i + d = t.length → ∃ r, Ev (fun k => chairs_Inversions.l0 k t acc ((i : Int) + 1)) r ∧ Ev (fun k => pomaderef03_Inversions.l0 k t acc ((i : Int) + 1)) r := by
  have h30 := h.n30
  induction d with
  | zero =>
    intro i acc hi
    refine ⟨(acc, 0), Ev.step (f := fun _ => some (acc, 0)) (fun k => ?_) (Ev.now _), Ev.step (f := fun _ => some (acc, 0)) (fun k => ?_) (Ev.now _)⟩
    · simp only [chairs_Inversions.l0]; rw [if_neg (by omega)]
    · simp only [pomaderef03_Inversions.l0]; rw [if_neg (by omega)]
  | succ d ih =>
    intro i acc hi
    have hc := List.all_eq_true.1 h.roots i (by rw [List.mem_range]; omega)
    rw [Nat.zero_add] at hc
    have hb : 0 ≤ rd t (i : Int) ∧ rd t (i : Int) ≤ (t.length : Int) := h.rng i (by omega)
    have hc2 : chairs_rooted.climb t t.length (rd t (i : Int)) = true := by
      have := climb_more t _ _ hc
      rw [climb_step t _ _ (by omega)] at this
      rwa [show (i : Int) + 1 - 1 = (i : Int) by omega] at this
    obtain ⟨r, h1, h2⟩ := ih (i + 1) (invc t ((i : Int) + 1) t.length (rd t (i : Int)) acc) (by omega)
    have hin := inv_in t (by omega) h.rng ((i : Int) + 1) r t.length (rd t (i : Int)) acc hb.1 hb.2 hc2
    have e : wrap64 ((i : Int) + 1 + 1) = ((i + 1 : Nat) : Int) + 1 := by rw [w64 (by omega) (by omega)]; omega
    rw [e] at hin
    refine ⟨r, Ev.step (fun k => ?_) (hin.1 h1), Ev.step (fun k => ?_) (hin.2 h2)⟩
    · simp only [chairs_Inversions.l0]
      rw [if_pos (by omega), w64 (x := (i : Int) + 1 - 1) (by omega) (by omega), show (i : Int) + 1 - 1 = (i : Int) by omega, if_pos (by omega), if_pos (by omega)]
    · simp only [pomaderef03_Inversions.l0]
      rw [if_pos (by omega), w64 (x := (i : Int) + 1 - 1) (by omega) (by omega), show (i : Int) + 1 - 1 = (i : Int) by omega, if_pos (by omega), if_pos (by omega)]
theorem inv_both (t : List Int) (hl : t.length ≤ 1000000) : ∃ r, Ev (fun k => chairs_Inversions.f k t) r ∧ Ev (fun k => pomaderef03_Inversions.f k t) r := by
  by_cases h : treeV t = 0
  · obtain ⟨r, h1, h2⟩ := inv_out t ((tree_iff t).1 h) t.length 0 0 (by omega)
    refine ⟨r, ?_, ?_⟩
    · refine Ev.bind (Ev.congr (fun _ => rooted_ev t) (Ev.now _)) ?_
      rw [h]
      exact Ev.congr (fun k => if_pos rfl) h1
    · refine Ev.bind (isTree_ev t hl) ?_
      rw [h]
      exact Ev.congr (fun k => if_pos rfl) h2
  · refine ⟨(0, treeV t), ?_, ?_⟩
    · exact Ev.bind (Ev.congr (fun _ => rooted_ev t) (Ev.now _)) (Ev.congr (fun k => if_neg h) (Ev.now _))
    · exact Ev.bind (isTree_ev t hl) (Ev.congr (fun k => if_neg h) (Ev.now _))
end Go.Proofs.Ytfopeenjpdaacaa.L
