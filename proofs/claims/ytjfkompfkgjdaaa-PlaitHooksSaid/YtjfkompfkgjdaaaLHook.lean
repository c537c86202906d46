/- The identity, the hooks and their products, by the program and by the specification. -/
import Derived.Test.YtjfkompfkgjdaaaLSame
import Derived.Test.YtjfkompfkgjdaaaPCg4
import Derived.Test.YtjfkompfkgjdaaaPCg4
import Derived.Test.YtjfkompfkgjdaaaPCf49
import Derived.Test.YtjfkompfkgjdaaaPCg7
import Derived.Test.YtjfkompfkgjdaaaPCg7
import Derived.Test.YtjfkompfkgjdaaaPCg7
namespace Go.Proofs.Ytjfkompfkgjdaaa.L
open Go.RowKit Go.Proofs.Ytjfkompfkgjdaaa.PC Go.Proofs.YtjfkompfkgjdaaaW.PrintWords Go.Proofs.YtjfkompfkgjdaaaW.PrintLast Go.Proofs.Ytjfkompfkgjdaaa.G
/-- every point with the one across -/
def idf (n z : Nat) : Nat := if z < n then z + n else z - n
def idL (n : Nat) : List Int := (List.range (2 * n)).map (fun z => (idf n z : Int))
theorem idL_len (n : Nat) : (idL n).length = 2 * n := by simp [idL]
theorem idL_rd {n z : Nat} (h : z < 2 * n) : rd (idL n) (z : Int) = (idf n z : Int) := rd_range _ _ _ h
theorem idf_mat {n : Nat} : Mat n (idf n) := by
  intro z hz
  unfold idf
  by_cases c : z < n
  · rw [if_pos c, if_neg (by omega)]; omega
  · rw [if_neg c, if_pos (by omega)]; omega
theorem lm_of_fun {n : Nat} {l : List Int} {f : Nat → Nat} (hl : l.length = 2 * n) (h : ∀ z : Nat, z < 2 * n → rd l (z : Int) = (f z : Int)) (hf : Mat n f) : LM n l ∧ ∀ z, z < 2 * n → fn l z = f z := by
  have e : ∀ z, z < 2 * n → fn l z = f z := fun z hz => by
    show (rd l (z : Int)).toNat = _
    rw [h z hz, Int.toNat_natCast]
  exact ⟨⟨hl, fun z hz => by rw [h z hz, e z hz], mat_congr e hf⟩, e⟩
theorem idL_lm (n : Nat) : LM n (idL n) := (lm_of_fun (idL_len n) (fun z hz => idL_rd hz) idf_mat).1
theorem identity_l0 {n : Nat} (hn : n ≤ 1000) (d : Nat) : ∀ (j : Nat) (l : List Int), j + d = n → l.length = 2 * n → (∀ i : Nat, i < j → rd l (i : Int) = ((n + i : Nat) : Int) ∧ rd l ((n + i : Nat) : Int) = (i : Int)) → Ev (fun k => plait_identity.l0 k (n : Int) l (n : Int) (j : Int)) (idL n) := by
  induction d with
  | zero =>
    intro j l hj hl hr
    obtain rfl : j = n := by omega
    have e : l = idL j := by
      refine list_eq (by rw [idL_len, hl]) (fun z hz => ?_)
      rw [idL_rd (by omega)]
      unfold idf
      by_cases c : z < j
      · rw [if_pos c, (hr z c).1]; omega
      · rw [if_neg c]
        have := (hr (z - j) (by omega)).2
        rwa [show j + (z - j) = z by omega] at this
    rw [e]
    refine Ev.step (f := fun _ => some (idL j)) (fun k => ?_) (Ev.now _)
    simp only [plait_identity.l0]
    rw [if_neg (by omega)]
  | succ d ih =>
    intro j l hj hl hr
    have lo : n + j < (l.set j ((n + j : Nat) : Int)).length := by simp; omega
    refine Ev.step (fun k => ?_) (ih (j + 1) ((l.set j ((n + j : Nat) : Int)).set (n + j) (j : Int)) (by omega) (by simpa using hl) (fun i hi => ?_))
    · simp only [plait_identity.l0]
      rw [if_pos (by omega), if_pos (by omega), if_pos (by omega), pw64 (x := (n : Int) + (j : Int)) (by omega) (by omega), pw64 (x := (j : Int) + 1) (by omega) (by omega), if_pos (by omega), if_pos (by omega), Int.toNat_natCast, show ((n : Int) + (j : Int)).toNat = n + j by omega]
      rfl
    · rw [rd_set _ _ _ _ lo, rd_set _ _ _ _ (by omega), rd_set _ _ _ _ lo, rd_set _ _ _ _ (by omega)]
      by_cases c : i = j
      · subst c
        rw [if_neg (by omega), if_pos rfl, if_pos rfl]; exact ⟨rfl, rfl⟩
      · rw [if_neg (by omega), if_neg c, if_neg (by omega), if_neg (by omega)]
        exact hr i (by omega)
theorem identity_ev {n : Nat} (hn : n ≤ 1000) : Ev (fun k => plait_identity.f k (n : Int)) (idL n) := by
  refine Ev.congr (fun k => ?_) (identity_l0 hn n 0 (List.replicate (2 * n) 0) (by omega) (by simp) (fun i hi => by omega))
  unfold plait_identity.f
  have e : wrap64 (2 * (n : Int)) = ((2 * n : Nat) : Int) := by rw [pw64 (by omega) (by omega)]; omega
  rw [e, if_pos (by omega), if_pos (by omega), Int.toNat_natCast]
  rfl
theorem refidentity_l0 {n : Nat} (hn : n ≤ 1000) (d : Nat) : ∀ (j : Nat), j + d = 2 * n → Ev (fun k => pomaderef07_Identity.l0 k (n : Int) ((List.range j).map (fun z => (idf n z : Int))) (j : Int)) (idL n) := by
  have e2 : wrap64 (2 * (n : Int)) = ((2 * n : Nat) : Int) := by rw [pw64 (by omega) (by omega)]; omega
  induction d with
  | zero =>
    intro j hj
    obtain rfl : j = 2 * n := by omega
    refine Ev.step (f := fun _ => some (idL n)) (fun k => ?_) (Ev.now _)
    simp only [pomaderef07_Identity.l0]
    rw [e2, if_neg (by omega)]; rfl
  | succ d ih =>
    intro j hj
    refine Ev.step (fun k => ?_) (ih (j + 1) (by omega))
    simp only [pomaderef07_Identity.l0]
    have e3 : Int.tmod ((j : Int) + (n : Int)) ((2 * n : Nat) : Int) = (idf n j : Int) := by
      rw [Int.tmod_eq_emod_of_nonneg (by omega)]
      unfold idf
      by_cases c : j < n
      · rw [if_pos c, Int.emod_eq_of_lt (by omega) (by omega)]; omega
      · rw [if_neg c, show (j : Int) + (n : Int) = ((j - n : Nat) : Int) + ((2 * n : Nat) : Int) * 1 by omega, Int.add_mul_emod_self_left, Int.emod_eq_of_lt (by omega) (by omega)]
    rw [e2, if_pos (by omega), if_neg (by omega), if_pos (by simp; omega), pw64 (x := (j : Int) + (n : Int)) (by omega) (by omega), pw64 (by omega) (by omega), e3, List.range_succ, List.map_append]
    rfl
theorem refidentity_ev {n : Nat} (hn : n ≤ 1000) : Ev (fun k => pomaderef07_Identity.f k (n : Int)) (idL n) := Ev.congr (fun k => rfl) (refidentity_l0 hn (2 * n) 0 (by omega))
/-! ### the hooks -/
def hkf (n i z : Nat) : Nat := if z = n + i + 1 then n + i else if z = n + i then n + i + 1 else if z = i + 1 then i else if z = i then i + 1 else idf n z
def hkL (n i : Nat) : List Int := ((((idL n).set i ((i + 1 : Nat) : Int)).set (i + 1) (i : Int)).set (n + i) ((n + i + 1 : Nat) : Int)).set (n + i + 1) ((n + i : Nat) : Int)
theorem hkf_mat {n i : Nat} (h : i + 1 < n) : Mat n (hkf n i) := by
  intro z hz
  unfold hkf idf
  refine ⟨?_, ?_, ?_⟩
  · repeat' split
    all_goals omega
  · repeat' split
    all_goals omega
  · repeat' split
    all_goals omega
theorem hkL_len (n i : Nat) : (hkL n i).length = 2 * n := by simp [hkL, idL_len]
theorem hkL_rd {n i z : Nat} (h : i + 1 < n) (hz : z < 2 * n) : rd (hkL n i) (z : Int) = (hkf n i z : Int) := by
  have l := idL_len n
  unfold hkL
  rw [rd_set _ _ _ _ (by simp; omega), rd_set _ _ _ _ (by simp; omega), rd_set _ _ _ _ (by simp; omega), rd_set _ _ _ _ (by omega), idL_rd hz]
  unfold hkf
  split
  · rfl
  · split
    · rfl
    · split
      · rfl
      · split <;> rfl
theorem hkL_lm {n i : Nat} (h : i + 1 < n) : LM n (hkL n i) ∧ ∀ z, z < 2 * n → fn (hkL n i) z = hkf n i z := lm_of_fun (hkL_len n i) (fun z hz => hkL_rd h hz) (hkf_mat h)
theorem hook_ev {n i : Nat} (hn : n ≤ 1000) (h : i + 1 < n) : Ev (fun k => plait_hook.f k (n : Int) (i : Int)) (hkL n i) := by
  have l := idL_len n
  refine Ev.congr (fun k => rfl) (Ev.bind (identity_ev hn) (Ev.congr (fun k => ?_) (Ev.now _)))
  have a1 : wrap64 ((i : Int) + 1) = ((i + 1 : Nat) : Int) := by rw [pw64 (by omega) (by omega)]; omega
  have a2 : wrap64 ((n : Int) + (i : Int)) = ((n + i : Nat) : Int) := by rw [pw64 (by omega) (by omega)]; omega
  have a3 : wrap64 (((n + i : Nat) : Int) + 1) = ((n + i + 1 : Nat) : Int) := by rw [pw64 (by omega) (by omega)]; omega
  rw [a1, a2, a3, if_pos (by omega), if_pos (by omega), if_pos (by omega), if_pos (by omega), if_pos (by omega), if_pos (by omega), if_pos (by omega), if_pos (by omega)]
  rfl
theorem refhook_ev {n i : Nat} (hn : n ≤ 1000) (h : i + 1 < n) : Ev (fun k => pomaderef07_Hook.f k (n : Int) (i : Int)) (hkL n i) := by
  have l := idL_len n
  refine Ev.congr (fun k => rfl) (Ev.bind (refidentity_ev hn) (Ev.congr (fun k => ?_) (Ev.now _)))
  have a1 : wrap64 ((i : Int) + 1) = ((i + 1 : Nat) : Int) := by rw [pw64 (by omega) (by omega)]; omega
  have a2 : wrap64 ((n : Int) + (i : Int)) = ((n + i : Nat) : Int) := by rw [pw64 (by omega) (by omega)]; omega
  have a3 : wrap64 (((n + i : Nat) : Int) + 1) = ((n + i + 1 : Nat) : Int) := by rw [pw64 (by omega) (by omega)]; omega
  rw [a1, a2, a3, if_pos (by omega), if_pos (by omega), if_pos (by omega), if_pos (by omega), if_pos (by omega), if_pos (by omega), if_pos (by omega), if_pos (by omega)]
  rfl
/-! ### their products -/
/-- the product of the hooks of a word from index j on -/
def hkW (n : Nat) (w : List Int) : Nat → Nat → List Int → Int → List Int × Int
  | 0, _, l, s => (l, s)
  | d + 1, j, l, s => hkW n w d (j + 1) (prodL n l (hkL n (rd w (j : Int)).toNat)) (wrap64 (s + (lops n (fn l) (fn (hkL n (rd w (j : Int)).toNat)) : Int)))
def okW (n : Nat) (w : List Int) : Prop := ∀ j : Nat, j < w.length → 0 ≤ rd w (j : Int) ∧ rd w (j : Int) ≤ (n : Int) - 2
theorem okW.at {n : Nat} {w : List Int} (h : okW n w) {j : Nat} (hj : j < w.length) : ∃ i : Nat, rd w (j : Int) = (i : Int) ∧ i + 1 < n := by
  have := h j hj
  exact ⟨(rd w (j : Int)).toNat, by omega, by omega⟩
theorem hkW_lm {n : Nat} {w : List Int} (hw : okW n w) (d : Nat) : ∀ (j : Nat) (l : List Int) (s : Int), j + d = w.length → LM n l → LM n (hkW n w d j l s).1 := by
  induction d with
  | zero => intro j l s _ h; exact h
  | succ d ih =>
    intro j l s hj h
    obtain ⟨i, e, hi⟩ := hw.at (j := j) (by omega)
    simp only [hkW]
    rw [e, Int.toNat_natCast]
    exact ih (j + 1) _ _ (by omega) (prodL_lm h (hkL_lm hi).1)
theorem hooks_l0 {n : Nat} (hn : n ≤ 500) {w : List Int} (hl : w.length ≤ 1000) (hw : okW n w) (d : Nat) : ∀ (j : Nat) (l : List Int) (s : Int), j + d = w.length → LM n l →
    Ev (fun k => plait_Hooks.l0 k (n : Int) l s w (w.length : Int) (j : Int)) ((hkW n w d j l s).1, (hkW n w d j l s).2, 0) ∧ Ev (fun k => pomaderef07_Hooks.l1 k (n : Int) w l s (j : Int)) ((hkW n w d j l s).1, (hkW n w d j l s).2, 0) := by
  induction d with
  | zero =>
    intro j l s hj h
    refine ⟨Ev.step (f := fun _ => some (l, s, 0)) (fun k => ?_) (Ev.now _), Ev.step (f := fun _ => some (l, s, 0)) (fun k => ?_) (Ev.now _)⟩
    · simp only [plait_Hooks.l0]; rw [if_neg (by omega)]
    · simp only [pomaderef07_Hooks.l1]; rw [if_neg (by omega)]
  | succ d ih =>
    intro j l s hj h
    obtain ⟨i, e, hi⟩ := hw.at (j := j) (by omega)
    have e1 : wrap64 ((j : Int) + 1) = ((j + 1 : Nat) : Int) := by rw [pw64 (by omega) (by omega)]; rfl
    have hk := (hkL_lm hi).1
    obtain ⟨g1, g2⟩ := ih (j + 1) (prodL n l (hkL n i)) (wrap64 (s + (lops n (fn l) (fn (hkL n i)) : Int))) (by omega) (prodL_lm h hk)
    simp only [hkW]
    rw [e, Int.toNat_natCast]
    constructor
    · refine Ev.step (f := fun k => (plait_hook.f k (n : Int) (i : Int)).bind fun t344 => ((plait_diagram_product.f l t344).bind fun bt347 => (plait_Hooks.l0 k (n : Int) bt347.1 (wrap64 (s + bt347.2)) w (w.length : Int) ((j + 1 : Nat) : Int)))) (fun k => ?_) ?_
      · simp only [plait_Hooks.l0]
        rw [if_pos (by omega), if_pos (by omega), if_pos (by omega), e, e1]
      · refine Ev.bind (hook_ev (by omega) hi) ?_
        exact Ev.congr (fun k => by rw [product_ok hn h hk, Option.bind_some]) g1
    · refine Ev.step (f := fun k => (pomaderef07_Hook.f k (n : Int) (i : Int)).bind fun t367 => ((pomaderef07_product.f k l t367).bind fun bt370 => (pomaderef07_Hooks.l1 k (n : Int) w bt370.1 (wrap64 (s + bt370.2)) ((j + 1 : Nat) : Int)))) (fun k => ?_) ?_
      · simp only [pomaderef07_Hooks.l1]
        rw [if_pos (by omega), if_pos (by omega), e, e1]
      · refine Ev.bind (refhook_ev (by omega) hi) ?_
        exact Ev.bind (ref_product hn h hk) g2
theorem any_iff (a0 : Int) (w : List Int) : (w.any (fun x => decide (x < 0 ∨ a0 - 2 < x)) = true) ↔ ∃ j : Nat, j < w.length ∧ (rd w (j : Int) < 0 ∨ a0 - 2 < rd w (j : Int)) := by
  rw [List.any_eq_true]
  constructor
  · rintro ⟨x, hx, hd⟩
    obtain ⟨j, hj, rfl⟩ := List.getElem_of_mem hx
    refine ⟨j, hj, ?_⟩
    have := of_decide_eq_true hd
    simpa [rd, List.getD_eq_getElem?_getD, hj] using this
  · rintro ⟨j, hj, h⟩
    refine ⟨w[j], List.getElem_mem _, decide_eq_true ?_⟩
    simpa [rd, List.getD_eq_getElem?_getD, hj] using h
theorem refhooks_hit {a0 : Int} (h0 : 1 ≤ a0) (h1 : a0 ≤ 10) {w : List Int} (hl : w.length ≤ 1000) (d : Nat) : ∀ j : Nat, j + d = w.length → (∃ i : Nat, j ≤ i ∧ i < w.length ∧ (rd w (i : Int) < 0 ∨ a0 - 2 < rd w (i : Int))) → Ev (fun k => pomaderef07_Hooks.l0 k a0 w (j : Int)) ([], 0, 2) := by
  induction d with
  | zero => intro j hj ⟨i, a, b, _⟩; omega
  | succ d ih =>
    intro j hj ⟨i, a, b, c⟩
    have ew : wrap64 (a0 - 2) = a0 - 2 := pw64 (by omega) (by omega)
    by_cases c1 : rd w (j : Int) < 0 ∨ a0 - 2 < rd w (j : Int)
    · refine Ev.step (f := fun _ => some ([], 0, 2)) (fun k => ?_) (Ev.now _)
      simp only [pomaderef07_Hooks.l0]
      rw [if_pos (by omega), if_pos (by omega), ew]
      by_cases c2 : rd w (j : Int) < 0
      · rw [if_pos c2]
      · rw [if_neg c2, if_pos (by omega)]
    · refine Ev.step (fun k => ?_) (ih (j + 1) (by omega) ⟨i, ?_, b, c⟩)
      · simp only [pomaderef07_Hooks.l0]
        rw [if_pos (by omega), if_pos (by omega), ew, if_neg (by omega), if_neg (by omega), pw64 (by omega) (by omega)]
        rfl
      · have : i ≠ j := fun e => c1 (e ▸ c)
        omega
theorem refhooks_miss {n : Nat} (hn : n ≤ 500) (h1 : 1 ≤ n) {w : List Int} (hl : w.length ≤ 1000) (hw : okW n w) {r : List Int × Int × Int} (hr : Ev (fun k => pomaderef07_Hooks.l1 k (n : Int) w (idL n) 0 ((0 : Nat) : Int)) r) (d : Nat) : ∀ j : Nat, j + d = w.length → Ev (fun k => pomaderef07_Hooks.l0 k (n : Int) w (j : Int)) r := by
  induction d with
  | zero =>
    intro j hj
    refine Ev.step (f := fun k => (pomaderef07_Identity.f k (n : Int)).bind fun t363 => pomaderef07_Hooks.l1 k (n : Int) w t363 0 0) (fun k => ?_) (Ev.bind (refidentity_ev (by omega)) hr)
    simp only [pomaderef07_Hooks.l0]
    rw [if_neg (by omega)]
  | succ d ih =>
    intro j hj
    have := hw j (by omega)
    refine Ev.step (fun k => ?_) (ih (j + 1) (by omega))
    simp only [pomaderef07_Hooks.l0]
    rw [if_pos (by omega), if_pos (by omega), if_neg (by omega), pw64 (x := (n : Int) - 2) (by omega) (by omega), if_neg (by omega), pw64 (by omega) (by omega)]
    rfl
/-- Hooks, by the program and by the specification -/
theorem hooks_both (a0 : Int) (w : List Int) : ∃ e : Int, ((e ≠ 0 ∧ Ev (fun k => plait_Hooks.f k a0 w) ([], 0, e) ∧ Ev (fun k => pomaderef07_Hooks.f k a0 w) ([], 0, e)) ∨
    (e = 0 ∧ ∃ n : Nat, a0 = (n : Int) ∧ 1 ≤ n ∧ n ≤ 10 ∧ w.length ≤ 200 ∧ okW n w ∧ Ev (fun k => plait_Hooks.f k a0 w) ((hkW n w w.length 0 (idL n) 0).1, (hkW n w w.length 0 (idL n) 0).2, 0) ∧ Ev (fun k => pomaderef07_Hooks.f k a0 w) ((hkW n w w.length 0 (idL n) 0).1, (hkW n w w.length 0 (idL n) 0).2, 0))) := by
  have no : ∀ e : Int, e ≠ 0 → plait_ordered.f a0 w = some e → Ev (fun k => plait_Hooks.f k a0 w) ([], 0, e) := fun e he h =>
    Ev.congr (fun k => by unfold plait_Hooks.f; rw [h, Option.bind_some, if_neg he]) (Ev.now _)
  by_cases c1 : a0 < 1 ∨ a0 > 10
  · refine ⟨2, .inl ⟨by decide, no 2 (by decide) (by unfold plait_ordered.f; rw [if_pos c1]), ?_⟩⟩
    refine Ev.congr (f := fun k => pomaderef07_Hooks.j0 k a0 w true) (fun k => ?_) (Ev.step (f := fun _ => some ([], 0, 2)) (fun k => ?_) (Ev.now _))
    · unfold pomaderef07_Hooks.f
      by_cases c : a0 < 1
      · rw [if_pos c]
      · rw [if_neg c, decide_eq_true (by omega)]
    · simp only [pomaderef07_Hooks.j0]; rw [if_pos trivial]
  · have rj : ∀ r, Ev (fun k => if (w.length : Int) > 200 then (some (([] : List Int), 0, 3)) else (pomaderef07_Hooks.l0 k a0 w 0)) r → Ev (fun k => pomaderef07_Hooks.f k a0 w) r := fun r hr => by
      refine Ev.congr (f := fun k => pomaderef07_Hooks.j0 k a0 w false) (fun k => ?_) (Ev.step (fun k => ?_) hr)
      · unfold pomaderef07_Hooks.f; rw [if_neg (by omega), decide_eq_false (by omega)]
      · simp only [pomaderef07_Hooks.j0]; rw [if_neg (by decide)]
    by_cases c2 : w.length > 200
    · refine ⟨3, .inl ⟨by decide, no 3 (by decide) (by unfold plait_ordered.f; rw [if_neg c1, if_pos c2]), ?_⟩⟩
      exact rj _ (Ev.congr (fun k => by rw [if_pos (by omega)]) (Ev.now _))
    · by_cases c3 : w.any (fun x => decide (x < 0 ∨ a0 - 2 < x)) = true
      · refine ⟨2, .inl ⟨by decide, no 2 (by decide) (by unfold plait_ordered.f; rw [if_neg c1, if_neg c2, if_pos c3]), ?_⟩⟩
        obtain ⟨j, hj, h⟩ := (any_iff a0 w).1 c3
        exact rj _ (Ev.congr (fun k => by rw [if_neg (by omega)]; rfl) (refhooks_hit (by omega) (by omega) (by omega) w.length 0 (by omega) ⟨j, by omega, hj, h⟩))
      · obtain ⟨n, rfl⟩ : ∃ n : Nat, a0 = (n : Int) := ⟨a0.toNat, by omega⟩
        have hw : okW n w := fun j hj => by
          have : ¬ (rd w (j : Int) < 0 ∨ (n : Int) - 2 < rd w (j : Int)) := fun h => c3 ((any_iff _ w).2 ⟨j, hj, h⟩)
          omega
        obtain ⟨g1, g2⟩ := hooks_l0 (n := n) (by omega) (by omega : w.length ≤ 1000) hw w.length 0 (idL n) 0 (by omega) (idL_lm n)
        refine ⟨0, .inr ⟨rfl, n, rfl, by omega, by omega, by omega, hw, ?_, ?_⟩⟩
        · refine Ev.congr (f := fun k => (plait_identity.f k (n : Int)).bind fun t340 => (plait_Hooks.l0 k (n : Int) t340 0 w (w.length : Int) 0)) (fun k => ?_) (Ev.bind (identity_ev (by omega)) g1)
          unfold plait_Hooks.f plait_ordered.f
          rw [if_neg c1, if_neg c2, if_neg c3, Option.bind_some, if_pos rfl]
        · exact rj _ (Ev.congr (fun k => by rw [if_neg (by omega)]; rfl) (refhooks_miss (by omega) (by omega) (by omega) hw g2 w.length 0 (by omega)))
end Go.Proofs.Ytjfkompfkgjdaaa.L
