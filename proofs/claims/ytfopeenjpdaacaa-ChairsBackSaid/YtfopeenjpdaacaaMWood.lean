/- Trees and wishes, in plain lists: one queue makes both, the tree out of the wishes and the wishes out of the tree. -/
import Derived.Test.YtfopeenjpdaacaaHRoot
namespace Go.Proofs.Ytfopeenjpdaacaa.MWood
open Go.RowKit Go.Proofs.Ytfopeenjpdaacaa.PC Go.Proofs.YtfopeenjpdaacaaW.PrintWords Go.Proofs.YtfopeenjpdaacaaW.PrintLast
/-- the nodes whose number in the list is v, in order -/
def kids (v : Int) : List Int → Nat → List Int
  | [], _ => []
  | x :: xs, c => if x = v then ((c : Int) + 1) :: kids v xs (c + 1) else kids v xs (c + 1)
theorem row_snd (k v : Int) : ∀ (ws : List Int) (c : Nat) (out q : List Int), (chairs_Tree.row k v ws c out q).2 = q ++ kids k ws c
  | [], c, out, q => by simp [chairs_Tree.row, kids]
  | x :: xs, c, out, q => by
    simp only [chairs_Tree.row, kids]
    split
    · rw [row_snd k v xs]; simp
    · exact row_snd k v xs _ _ _
theorem row_len (k v : Int) : ∀ (ws : List Int) (c : Nat) (out q : List Int), (chairs_Tree.row k v ws c out q).1.length = out.length
  | [], c, out, q => rfl
  | x :: xs, c, out, q => by
    simp only [chairs_Tree.row]
    split
    · rw [row_len k v xs]; simp
    · exact row_len k v xs _ _ _
theorem row_fst (k v : Int) : ∀ (ws : List Int) (c : Nat) (out q : List Int) (i : Nat), i < out.length → (chairs_Tree.row k v ws c out q).1.getD i 0 = if c ≤ i ∧ i < c + ws.length ∧ ws.getD (i - c) 0 = k then v else out.getD i 0
  | [], c, out, q, i, h => by
    rw [if_neg (by simp; omega)]; rfl
  | x :: xs, c, out, q, i, h => by
    simp only [chairs_Tree.row]
    by_cases e : x = k
    · rw [if_pos e, row_fst k v xs _ _ _ i (by simpa using h)]
      by_cases g : c = i
      · subst g
        rw [if_neg (by omega), if_pos (by simp [e])]
        simp [List.getD_eq_getElem?_getD, h]
      · rw [List.getD_eq_getElem?_getD (l := out.set c v), List.getElem?_set_ne g, ← List.getD_eq_getElem?_getD]
        by_cases j : c + 1 ≤ i ∧ i < c + 1 + xs.length ∧ xs.getD (i - (c + 1)) 0 = k
        · rw [if_pos j, if_pos ⟨by omega, by simp; omega, by
            have : i - c = (i - (c + 1)) + 1 := by omega
            rw [this]; simpa using j.2.2⟩]
        · rw [if_neg j, if_neg]
          rintro ⟨a, b, d⟩
          refine j ⟨by omega, by simp at b; omega, ?_⟩
          have : i - c = (i - (c + 1)) + 1 := by omega
          rw [this] at d; simpa using d
    · rw [if_neg e, row_fst k v xs _ _ _ i h]
      by_cases g : c = i
      · subst g
        rw [if_neg (by omega), if_neg (by simp; intro q; exact e q)]
      · by_cases j : c + 1 ≤ i ∧ i < c + 1 + xs.length ∧ xs.getD (i - (c + 1)) 0 = k
        · rw [if_pos j, if_pos ⟨by omega, by simp; omega, by
            have : i - c = (i - (c + 1)) + 1 := by omega
            rw [this]; simpa using j.2.2⟩]
        · rw [if_neg j, if_neg]
          rintro ⟨a, b, d⟩
          refine j ⟨by omega, by simp at b; omega, ?_⟩
          have : i - c = (i - (c + 1)) + 1 := by omega
          rw [this] at d; simpa using d
theorem mem_kids (v : Int) : ∀ (ws : List Int) (c : Nat) (x : Int), x ∈ kids v ws c ↔ ∃ i, i < ws.length ∧ ws.getD i 0 = v ∧ x = ((c + i : Nat) : Int) + 1
  | [], c, x => by simp [kids]
  | y :: ys, c, x => by
    have ih := mem_kids v ys (c + 1) x
    have h1 : x ∈ kids v (y :: ys) c ↔ (y = v ∧ x = (c : Int) + 1) ∨ x ∈ kids v ys (c + 1) := by
      simp only [kids]
      by_cases e : y = v
      · rw [if_pos e, List.mem_cons]; simp [e]
      · rw [if_neg e]; simp [e]
    rw [h1, ih]
    constructor
    · rintro (⟨a, b⟩ | ⟨i, a, b, d⟩)
      · exact ⟨0, by simp, by simpa using a, by simpa using b⟩
      · exact ⟨i + 1, by simp; omega, by simpa using b, by rw [d]; omega⟩
    · rintro ⟨i, a, b, d⟩
      cases i with
      | zero => exact Or.inl ⟨by simpa using b, by simpa using d⟩
      | succ i => exact Or.inr ⟨i, by simp at a; omega, by simpa using b, by rw [d]; omega⟩
theorem kids_nodup (v : Int) : ∀ (ws : List Int) (c : Nat), (kids v ws c).Nodup
  | [], c => by simp [kids]
  | y :: ys, c => by
    simp only [kids]
    split
    · rw [List.nodup_cons]
      refine ⟨fun h => ?_, kids_nodup v ys (c + 1)⟩
      obtain ⟨i, _, _, e⟩ := (mem_kids v ys (c + 1) _).1 h
      omega
    · exact kids_nodup v ys (c + 1)
theorem kids_len (v : Int) : ∀ (ws : List Int) (c : Nat), (kids v ws c).length = ws.countP (fun x => decide (x = v))
  | [], c => rfl
  | y :: ys, c => by
    simp only [kids]
    rw [List.countP_cons, ← kids_len v ys (c + 1)]
    by_cases e : y = v <;> simp [e]
theorem kids_congr (v v' : Int) : ∀ (ws ws' : List Int) (c : Nat), ws.length = ws'.length → (∀ i, i < ws.length → (ws.getD i 0 = v ↔ ws'.getD i 0 = v')) → kids v ws c = kids v' ws' c
  | [], ws', c, hl, h => by
    obtain rfl : ws' = [] := List.length_eq_zero_iff.1 hl.symm
    rfl
  | x :: xs, [], c, hl, h => by simp at hl
  | x :: xs, y :: ys, c, hl, h => by
    have h0 := h 0 (by simp)
    simp only [List.getD_cons_zero] at h0
    have ih := kids_congr v v' xs ys (c + 1) (by simpa using hl) (fun i hi => by simpa using h (i + 1) (by simpa using hi))
    simp only [kids]
    by_cases e : x = v
    · rw [if_pos e, if_pos (h0.1 e), ih]
    · rw [if_neg e, if_neg (fun g => e (h0.2 g)), ih]
/-- wishes w, tree t and queue Q that belong together; L k: how many have come when k have been taken -/
structure Run (w t Q : List Int) (L : Nat → Nat) : Prop where
  lt : t.length = w.length
  lQ : Q.length = w.length + 1
  nd : Q.Nodup
  hd : Q.getD 0 0 = 0
  rng : ∀ c, c < w.length → 0 ≤ w.getD c 0 ∧ w.getD c 0 < (w.length : Int)
  par : ∀ c, c < w.length → t.getD c 0 = Q.getD (w.getD c 0).toNat 0
  l0 : L 0 = 1
  gt : ∀ k, k ≤ w.length → k < L k
  le : ∀ k, k ≤ w.length + 1 → L k ≤ w.length + 1
  grow : ∀ k, k ≤ w.length → Q.take (L k) ++ kids (k : Int) w 0 = Q.take (L (k + 1))
theorem nodup_getD {l : List Int} (h : l.Nodup) {i j : Nat} (hi : i < l.length) (hj : j < l.length) (e : l.getD i 0 = l.getD j 0) : i = j := by
  rw [List.getD_eq_getElem?_getD, List.getD_eq_getElem?_getD, List.getElem?_eq_getElem hi, List.getElem?_eq_getElem hj] at e
  refine (List.getElem?_inj hi h).1 ?_
  rw [List.getElem?_eq_getElem hi, List.getElem?_eq_getElem hj]
  simpa using e
theorem ext_getD {l l' : List Int} (h : l.length = l'.length) (e : ∀ i, i < l.length → l.getD i 0 = l'.getD i 0) : l = l' := by
  refine List.ext_getElem h fun i h1 h2 => ?_
  have := e i h1
  simpa [List.getD_eq_getElem?_getD, List.getElem?_eq_getElem h1, List.getElem?_eq_getElem h2] using this
theorem drop_cons {l : List Int} {k : Nat} (h : k < l.length) : l.drop k = l.getD k 0 :: l.drop (k + 1) := by
  rw [List.drop_eq_getElem_cons h]; simp [List.getD_eq_getElem?_getD, h]
theorem Run.rest {w t Q : List Int} {L : Nat → Nat} (R : Run w t Q L) (k : Nat) (hk : k ≤ w.length) : (Q.take (L k)).drop k = Q.getD k 0 :: (Q.take (L k)).drop (k + 1) ∧ (Q.take (L k)).drop (k + 1) ++ kids (k : Int) w 0 = (Q.take (L (k + 1))).drop (k + 1) := by
  have h1 := R.gt k hk
  have h2 := R.le k (by omega)
  have h3 := R.lQ
  have hl : (Q.take (L k)).length = L k := by rw [List.length_take]; omega
  constructor
  · rw [drop_cons (by omega)]
    congr 1
    rw [List.getD_eq_getElem?_getD, List.getElem?_take, if_pos h1, ← List.getD_eq_getElem?_getD]
  · rw [← R.grow k hk, List.drop_append_of_le_length (by omega)]
theorem Run.tree_go {w t Q : List Int} {L : Nat → Nat} (R : Run w t Q L) (d : Nat) : ∀ (k : Nat) (out : List Int), k + d = w.length + 1 → out.length = w.length → (∀ c, c < w.length → out.getD c 0 = if w.getD c 0 < (k : Int) then t.getD c 0 else 0) → chairs_Tree.go w (d + 1) (k : Int) out ((Q.take (L k)).drop k) = some t := by
  induction d with
  | zero =>
    intro k out hk ho hv
    have h3 := R.lQ
    have h4 := R.lt
    rw [List.drop_of_length_le (by rw [List.length_take]; omega)]
    simp only [chairs_Tree.go]
    rw [ext_getD (l := out) (l' := t) (by omega) fun c hc => by
      rw [hv c (by omega), if_pos]
      have := R.rng c (by omega)
      omega]
  | succ d ih =>
    intro k out hk ho hv
    obtain ⟨h1, h2⟩ := R.rest k (by omega)
    rw [h1]
    simp only [chairs_Tree.go]
    rw [row_snd, h2]
    have hk2 : ((k : Int) + 1) = ((k + 1 : Nat) : Int) := by omega
    rw [hk2]
    refine ih (k + 1) _ (by omega) (by rw [row_len]; exact ho) fun c hc => ?_
    rw [row_fst _ _ _ _ _ _ _ (by omega), hv c hc]
    have hr := R.rng c hc
    by_cases e : w.getD c 0 = (k : Int)
    · rw [if_pos ⟨by omega, by omega, by simpa using e⟩, if_pos (by omega), R.par c hc, e, Int.toNat_natCast]
    · rw [if_neg (fun g => e (by simpa using g.2.2))]
      by_cases g : w.getD c 0 < (k : Int)
      · rw [if_pos g, if_pos (by omega)]
      · rw [if_neg g, if_neg (by omega)]
theorem Run.kids_t {w t Q : List Int} {L : Nat → Nat} (R : Run w t Q L) (k : Nat) (hk : k ≤ w.length) : kids (Q.getD k 0) t 0 = kids (k : Int) w 0 := by
  have h3 := R.lQ
  refine kids_congr _ _ _ _ _ R.lt fun c hc => ?_
  have hc' : c < w.length := by rw [← R.lt]; exact hc
  have hr := R.rng c hc'
  rw [R.par c hc']
  constructor
  · intro e
    have := nodup_getD R.nd (by omega) (by omega) e
    omega
  · intro e
    rw [e, Int.toNat_natCast]
theorem Run.wishes_go {w t Q : List Int} {L : Nat → Nat} (R : Run w t Q L) (d : Nat) : ∀ (k : Nat) (out : List Int), k + d = w.length + 1 → out.length = w.length → (∀ c, c < w.length → out.getD c 0 = if w.getD c 0 < (k : Int) then w.getD c 0 else 0) → chairs_Wishes.go t (d + 1) (k : Int) out ((Q.take (L k)).drop k) = some w := by
  have h3 := R.lQ
  have h4 := R.lt
  induction d with
  | zero =>
    intro k out hk ho hv
    rw [List.drop_of_length_le (by rw [List.length_take]; omega)]
    simp only [chairs_Wishes.go]
    rw [ext_getD (l := out) (l' := w) (by omega) fun c hc => by
      rw [hv c (by omega), if_pos]
      have := R.rng c (by omega)
      omega]
  | succ d ih =>
    intro k out hk ho hv
    obtain ⟨h1, h2⟩ := R.rest k (by omega)
    rw [h1]
    simp only [chairs_Wishes.go]
    rw [row_snd, R.kids_t k (by omega), h2]
    have hk2 : ((k : Int) + 1) = ((k + 1 : Nat) : Int) := by omega
    rw [hk2]
    refine ih (k + 1) _ (by omega) (by rw [row_len]; exact ho) fun c hc => ?_
    rw [row_fst _ _ _ _ _ _ _ (by omega), hv c hc]
    have hr := R.rng c hc
    have he : t.getD c 0 = Q.getD k 0 ↔ w.getD c 0 = (k : Int) := by
      rw [R.par c hc]
      constructor
      · intro e
        have := nodup_getD R.nd (by omega) (by omega) e
        omega
      · intro e
        rw [e, Int.toNat_natCast]
    by_cases e : w.getD c 0 = (k : Int)
    · rw [if_pos ⟨by omega, by omega, by simpa using he.2 e⟩, if_pos (by omega), e]
    · rw [if_neg (fun g => e (he.1 (by simpa using g.2.2)))]
      by_cases g : w.getD c 0 < (k : Int)
      · rw [if_pos g, if_pos (by omega)]
      · rw [if_neg g, if_neg (by omega)]
theorem Run.first {w t Q : List Int} {L : Nat → Nat} (R : Run w t Q L) : (Q.take (L 0)).drop 0 = [0] := by
  have h3 := R.lQ
  rw [R.l0, List.drop_zero, show Q.take 1 = [Q.getD 0 0] from ?_, R.hd]
  cases Q with
  | nil => simp at h3
  | cons x xs => simp
theorem Run.tree {w t Q : List Int} {L : Nat → Nat} (R : Run w t Q L) : chairs_Tree.go w (w.length + 2) 0 (List.replicate w.length 0) [0] = some t := by
  have := R.tree_go (w.length + 1) 0 (List.replicate w.length 0) (by omega) (by simp) fun c hc => by
    have := R.rng c hc
    rw [if_neg (by omega)]; simp [List.getD_eq_getElem?_getD, hc]
  rw [R.first] at this
  exact this
theorem Run.wishes {w t Q : List Int} {L : Nat → Nat} (R : Run w t Q L) : chairs_Wishes.go t (t.length + 2) 0 (List.replicate t.length 0) [0] = some w := by
  have := R.wishes_go (w.length + 1) 0 (List.replicate w.length 0) (by omega) (by simp) fun c hc => by
    have := R.rng c hc
    rw [if_neg (by omega)]; simp [List.getD_eq_getElem?_getD, hc]
  rw [R.first] at this
  rw [R.lt]
  exact this
/-! ### the ways up end -/
theorem climb_more (t : List Int) : ∀ (n : Nat) (a : Int), chairs_rooted.climb t n a = true → chairs_rooted.climb t (n + 1) a = true
  | 0, a, h => by simp [chairs_rooted.climb] at h ⊢; simp [h]
  | n + 1, a, h => by
    rw [chairs_rooted.climb]
    by_cases e : a = 0
    · rw [if_pos e]
    · rw [if_neg e]
      refine climb_more t n _ ?_
      rw [chairs_rooted.climb, if_neg e] at h
      exact h
theorem climb_le (t : List Int) {m n : Nat} (h : m ≤ n) {a : Int} (hc : chairs_rooted.climb t m a = true) : chairs_rooted.climb t n a = true := by
  induction n with
  | zero => obtain rfl : m = 0 := by omega
            exact hc
  | succ n ih =>
    by_cases e : m = n + 1
    · rw [← e]; exact hc
    · exact climb_more t n a (ih (by omega))
/-- the nodes of a shortest way are different -/
theorem climb_path (t : List Int) (B : Nat) (ht : ∀ i, i < B → 0 ≤ t.getD i 0 ∧ t.getD i 0 ≤ (B : Int)) : ∀ (m : Nat) (a : Int), 0 ≤ a → a ≤ (B : Int) → chairs_rooted.climb t m a = true → (∀ j, j < m → chairs_rooted.climb t j a = false) →
    ∃ l : List Int, l.length = m ∧ l.Nodup ∧ ∀ y ∈ l, 1 ≤ y ∧ y ≤ (B : Int) ∧ ∃ j, j < m + 1 ∧ chairs_rooted.climb t j y = true ∧ ∀ i, i < j → chairs_rooted.climb t i y = false
  | 0, a, _, _, _, _ => ⟨[], rfl, List.nodup_nil, fun y h => by cases h⟩
  | m + 1, a, h0, h1, hc, hn => by
    have hne : a ≠ 0 := fun e => by
      have := hn 0 (by omega)
      rw [e] at this
      simp [chairs_rooted.climb] at this
    have hrd : rd t (a - 1) = t.getD (a - 1).toNat 0 := rfl
    have hb := ht (a - 1).toNat (by omega)
    rw [← hrd] at hb
    have hc2 : chairs_rooted.climb t m (rd t (a - 1)) = true := by
      have h := hc
      rw [chairs_rooted.climb, if_neg hne] at h
      exact h
    obtain ⟨l, hl, hd, hy⟩ := climb_path t B ht m (rd t (a - 1)) hb.1 hb.2 hc2 (fun j hj => by
      have := hn (j + 1) (by omega)
      rw [chairs_rooted.climb, if_neg hne] at this
      exact this)
    refine ⟨a :: l, by simp [hl], List.nodup_cons.2 ⟨fun hm => ?_, hd⟩, fun y hm => ?_⟩
    · obtain ⟨_, _, j, h2, h3, _⟩ := hy a hm
      rw [hn j (by omega)] at h3
      cases h3
    · rcases List.mem_cons.1 hm with rfl | hm
      · exact ⟨by omega, h1, m + 1, by omega, hc, hn⟩
      · obtain ⟨h2, h3, j, h4, h5, h6⟩ := hy y hm
        exact ⟨h2, h3, j, by omega, h5, h6⟩
theorem climb_enough (t : List Int) (B : Nat) (ht : ∀ i, i < B → 0 ≤ t.getD i 0 ∧ t.getD i 0 ≤ (B : Int)) (a : Int) (h0 : 0 ≤ a) (h1 : a ≤ (B : Int)) : ∀ m, chairs_rooted.climb t m a = true → chairs_rooted.climb t B a = true := by
  intro m
  induction m using Nat.strongRecOn with
  | ind m ih =>
    intro hc
    by_cases g : m ≤ B
    · exact climb_le t g hc
    refine Classical.byContradiction fun hb => ?_
    obtain ⟨l, hl, hd, hy⟩ := climb_path t B ht m a h0 h1 hc (fun j hj => by
      cases e : chairs_rooted.climb t j a with
      | false => rfl
      | true => exact absurd (ih j hj e) hb)
    have hs : l ⊆ (List.range B).map (fun i : Nat => (i : Int) + 1) := fun y hm => by
      obtain ⟨h2, h3, _⟩ := hy y hm
      rw [List.mem_map]
      exact ⟨(y - 1).toNat, by rw [List.mem_range]; omega, by omega⟩
    have := hd.length_le_of_subset hs
    simp at this
    omega
theorem Run.older {w t Q : List Int} {L : Nat → Nat} (R : Run w t Q L) : ∀ k, k ≤ w.length + 1 → ∀ j, 1 ≤ j → j < L k → ∃ c, c < w.length ∧ Q.getD j 0 = (c : Int) + 1 ∧ w.getD c 0 < (j : Int)
  | 0, _, j, h1, h2 => by rw [R.l0] at h2; omega
  | k + 1, hk, j, h1, h2 => by
    by_cases g : j < L k
    · exact R.older k (by omega) j h1 g
    have hg := R.grow k (by omega)
    have h3 := R.lQ
    have h4 := R.le k (by omega)
    have h5 := R.le (k + 1) (by omega)
    have h6 := R.gt k (by omega)
    have e : Q.getD j 0 ∈ kids (k : Int) w 0 := by
      have e1 : (Q.take (L (k + 1)))[j]? = Q[j]? := by rw [List.getElem?_take, if_pos h2]
      rw [← hg, List.getElem?_append_right (by rw [List.length_take]; omega)] at e1
      rw [List.getD_eq_getElem?_getD, ← e1]
      have hq : Q[j]? = some Q[j] := List.getElem?_eq_getElem (by omega)
      rw [hq] at e1
      rw [e1]
      exact List.mem_of_getElem? e1
    obtain ⟨i, h7, h8, h9⟩ := (mem_kids _ _ _ _).1 e
    exact ⟨i, h7, by simpa using h9, by omega⟩
theorem Run.climbs {w t Q : List Int} {L : Nat → Nat} (R : Run w t Q L) (hL : L (w.length + 1) = w.length + 1) (j : Nat) (hj : j ≤ w.length) : chairs_rooted.climb t j (Q.getD j 0) = true := by
  induction j using Nat.strongRecOn with
  | ind j ih =>
    cases j with
    | zero => rw [R.hd]; rfl
    | succ j =>
      obtain ⟨c, h1, h2, h3⟩ := R.older (w.length + 1) (by omega) (j + 1) (by omega) (by omega)
      have hr := R.rng c h1
      have h4 := ih (w.getD c 0).toNat (by omega) (by omega)
      rw [← R.par c h1] at h4
      rw [h2, chairs_rooted.climb, if_neg (by omega)]
      have e : rd t ((c : Int) + 1 - 1) = t.getD c 0 := by
        have : ((c : Int) + 1 - 1) = (c : Int) := by omega
        rw [this]; simp [rd]
      rw [e]
      exact climb_le t (by omega) h4
theorem Run.has {w t Q : List Int} {L : Nat → Nat} (R : Run w t Q L) (c : Nat) (hc : c < w.length) : ∃ j, j ≤ w.length ∧ Q.getD j 0 = (c : Int) + 1 := by
  have hr := R.rng c hc
  have hk := R.grow (w.getD c 0).toNat (by omega)
  have hm : (c : Int) + 1 ∈ Q := by
    have h1 : (c : Int) + 1 ∈ kids ((w.getD c 0).toNat : Int) w 0 := (mem_kids _ _ _ _).2 ⟨c, hc, by omega, by simp⟩
    have h2 : (c : Int) + 1 ∈ Q.take (L ((w.getD c 0).toNat + 1)) := by rw [← hk]; exact List.mem_append_right _ h1
    exact List.mem_of_mem_take h2
  obtain ⟨j, hj, e⟩ := List.mem_iff_getElem.1 hm
  have h3 := R.lQ
  exact ⟨j, by omega, by simp [List.getD_eq_getElem?_getD, List.getElem?_eq_getElem hj, e]⟩
theorem Run.rooted {w t Q : List Int} {L : Nat → Nat} (R : Run w t Q L) (hL : L (w.length + 1) = w.length + 1) : rootsFrom t 0 t.length = true := by
  unfold rootsFrom
  rw [List.all_eq_true]
  intro c hc
  rw [List.mem_range, R.lt] at hc
  obtain ⟨j, h1, h2⟩ := R.has c hc
  rw [Nat.zero_add, ← h2, R.lt]
  exact climb_le t h1 (R.climbs hL j h1)
theorem Run.t_rng {w t Q : List Int} {L : Nat → Nat} (R : Run w t Q L) (hL : L (w.length + 1) = w.length + 1) (c : Nat) (hc : c < w.length) : 0 ≤ t.getD c 0 ∧ t.getD c 0 ≤ (w.length : Int) := by
  have hr := R.rng c hc
  rw [R.par c hc]
  by_cases e : (w.getD c 0).toNat = 0
  · rw [e, R.hd]; omega
  · obtain ⟨d, h1, h2, _⟩ := R.older (w.length + 1) (by omega) (w.getD c 0).toNat (by omega) (by omega)
    rw [h2]; omega
/-! ### good wishes have a queue -/
def wq (w : List Int) : Nat → List Int
  | 0 => [0]
  | k + 1 => wq w k ++ kids (k : Int) w 0
theorem count_lt (w : List Int) (k : Int) : w.countP (fun x => decide (x < k + 1)) = w.countP (fun x => decide (x < k)) + w.countP (fun x => decide (x = k)) := by
  induction w with
  | nil => rfl
  | cons x xs ih =>
    rw [List.countP_cons, List.countP_cons, List.countP_cons, ih]
    by_cases e : x = k
    · subst e; simp [show x < x + 1 by omega]; omega
    · by_cases g : x < k
      · simp [e, g, show x < k + 1 by omega]; omega
      · simp [e, g, show ¬ x < k + 1 by omega]
theorem wq_len (w : List Int) (hw : ∀ x ∈ w, 0 ≤ x) : ∀ k, (wq w k).length = 1 + w.countP (fun x => decide (x < (k : Int)))
  | 0 => by
    have : w.countP (fun x => decide (x < 0)) = 0 := List.countP_eq_zero.2 fun x hx => by have := hw x hx; simp; omega
    simp [wq, this]
  | k + 1 => by
    simp only [wq]
    rw [List.length_append, wq_len w hw k, kids_len]
    have := count_lt w (k : Int)
    rw [show ((k + 1 : Nat) : Int) = (k : Int) + 1 by omega]
    omega
theorem wq_mem (w : List Int) : ∀ k x, x ∈ wq w k → x = 0 ∨ ∃ c, c < w.length ∧ x = (c : Int) + 1 ∧ w.getD c 0 < (k : Int)
  | 0, x, h => by simp [wq] at h; exact Or.inl h
  | k + 1, x, h => by
    simp only [wq] at h
    rcases List.mem_append.1 h with h | h
    · rcases wq_mem w k x h with h | ⟨c, h1, h2, h3⟩
      · exact Or.inl h
      · exact Or.inr ⟨c, h1, h2, by omega⟩
    · obtain ⟨i, h1, h2, h3⟩ := (mem_kids _ _ _ _).1 h
      exact Or.inr ⟨i, h1, by simpa using h3, by omega⟩
theorem wq_nodup (w : List Int) : ∀ k, (wq w k).Nodup
  | 0 => by simp [wq]
  | k + 1 => by
    simp only [wq]
    refine List.nodup_append.2 ⟨wq_nodup w k, kids_nodup _ _ _, fun x hx y hy e => ?_⟩
    subst e
    obtain ⟨i, h1, h2, h3⟩ := (mem_kids _ _ _ _).1 hy
    rcases wq_mem w k x hx with h | ⟨c, h4, h5, h6⟩
    · omega
    · obtain rfl : c = i := by omega
      omega
theorem wq_ne (w : List Int) : ∀ k, wq w k ≠ []
  | 0 => by simp [wq]
  | k + 1 => by simp [wq, wq_ne w k]
theorem wq_head (w : List Int) : ∀ k, (wq w k).getD 0 0 = 0
  | 0 => rfl
  | k + 1 => by
    have := wq_head w k
    simp only [wq]
    cases h : wq w k with
    | nil => exact absurd h (wq_ne w k)
    | cons x xs => rw [h] at this; simpa using this
theorem take_wq (w : List Int) : ∀ d k, (wq w (k + d)).take (wq w k).length = wq w k
  | 0, k => by simp
  | d + 1, k => by
    have ih := take_wq w d k
    have hle : (wq w k).length ≤ (wq w (k + d)).length := by
      have := congrArg List.length ih
      rw [List.length_take] at this
      omega
    rw [← Nat.add_assoc]
    simp only [wq]
    rw [List.take_append_of_le_length hle, ih]
theorem good_run (w : List Int) (hw : ∀ x ∈ w, 0 ≤ x ∧ x < (w.length : Int)) (hg : ∀ k : Nat, 1 ≤ k → k ≤ w.length → k ≤ w.countP (fun x => decide (x < (k : Int)))) :
    ∃ t Q L, Run w t Q L ∧ L (w.length + 1) = w.length + 1 := by
  have h0 : ∀ x ∈ w, 0 ≤ x := fun x hx => (hw x hx).1
  have hall : w.countP (fun x => decide (x < ((w.length + 1 : Nat) : Int))) = w.length := List.countP_eq_length.2 fun x hx => by
    have := hw x hx
    simp; omega
  have hlen : ∀ k, (wq w k).length = 1 + w.countP (fun x => decide (x < (k : Int))) := wq_len w h0
  have hQ : (wq w (w.length + 1)).length = w.length + 1 := by rw [hlen, hall]; omega
  have hm : ∀ c, c < w.length → 0 ≤ w.getD c 0 ∧ w.getD c 0 < (w.length : Int) := fun c hc => hw _ (by simp [List.getD_eq_getElem?_getD, hc])
  have htk : ∀ k, k ≤ w.length + 1 → (wq w (w.length + 1)).take (wq w k).length = wq w k := fun k hk => by
    have := take_wq w (w.length + 1 - k) k
    rwa [show k + (w.length + 1 - k) = w.length + 1 by omega] at this
  refine ⟨w.map fun x => (wq w (w.length + 1)).getD x.toNat 0, wq w (w.length + 1), fun k => (wq w k).length, ⟨by simp, hQ, wq_nodup _ _, wq_head _ _, hm, fun c hc => ?_, rfl, fun k hk => ?_, fun k hk => ?_, fun k hk => ?_⟩, hQ⟩
  · simp [List.getD_eq_getElem?_getD, hc]
  · show k < (wq w k).length
    rw [hlen]
    by_cases e : k = 0
    · omega
    · have := hg k (by omega) hk; omega
  · show (wq w k).length ≤ _
    rw [hlen]
    have : w.countP (fun x => decide (x < (k : Int))) ≤ w.length := List.countP_le_length
    omega
  · show (wq w (w.length + 1)).take (wq w k).length ++ _ = (wq w (w.length + 1)).take (wq w (k + 1)).length
    rw [htk k (by omega), htk (k + 1) (by omega)]
    rfl
theorem Run.good {w t Q : List Int} {L : Nat → Nat} (R : Run w t Q L) (k : Nat) (hk : k ≤ w.length) : k ≤ w.countP (fun x => decide (x < (k : Int))) := by
  have key : ∀ k, k ≤ w.length + 1 → L k = 1 + w.countP (fun x => decide (x < (k : Int))) := by
    intro k
    induction k with
    | zero =>
      intro _
      rw [R.l0, List.countP_eq_zero.2]
      intro x hx
      obtain ⟨c, hc, e⟩ := List.mem_iff_getElem.1 hx
      have := R.rng c hc
      have e2 : w.getD c 0 = x := by simp [List.getD_eq_getElem?_getD, List.getElem?_eq_getElem hc, e]
      rw [e2] at this
      simp; omega
    | succ k ih =>
      intro hk
      have h2 := ih (by omega)
      have h3 := congrArg List.length (R.grow k (by omega))
      have h4 := R.lQ
      have h5 := R.le k (by omega)
      have h6 := R.le (k + 1) (by omega)
      rw [List.length_append, kids_len, List.length_take, List.length_take] at h3
      have h7 := count_lt w (k : Int)
      rw [show ((k + 1 : Nat) : Int) = (k : Int) + 1 by omega]
      omega
  have := key k (by omega)
  have := R.gt k hk
  omega
/-! ### trees have a queue -/
def tq (t : List Int) : Nat → List Int
  | 0 => [0]
  | k + 1 => tq t k ++ if k < (tq t k).length then kids ((tq t k).getD k 0) t 0 else []
theorem tq_prefix (t : List Int) : ∀ d k, ∃ r, tq t (k + d) = tq t k ++ r
  | 0, k => ⟨[], by simp⟩
  | d + 1, k => by
    obtain ⟨r, h⟩ := tq_prefix t d k
    refine ⟨r ++ (if k + d < (tq t (k + d)).length then kids ((tq t (k + d)).getD (k + d) 0) t 0 else []), ?_⟩
    rw [← Nat.add_assoc]
    show tq t (k + d) ++ _ = _
    rw [h]
    simp
theorem tq_get (t : List Int) (d k j : Nat) (h : j < (tq t k).length) : (tq t (k + d)).getD j 0 = (tq t k).getD j 0 := by
  obtain ⟨r, e⟩ := tq_prefix t d k
  rw [e, List.getD_eq_getElem?_getD, List.getElem?_append_left h, ← List.getD_eq_getElem?_getD]
theorem tq_mem (t : List Int) : ∀ k x, x ∈ tq t k → x = 0 ∨ ∃ c, c < t.length ∧ x = (c : Int) + 1 ∧ ∃ j, j < k ∧ j < (tq t k).length ∧ (tq t k).getD j 0 = t.getD c 0
  | 0, x, h => by simp [tq] at h; exact Or.inl h
  | k + 1, x, h => by
    have hlen : (tq t k).length ≤ (tq t (k + 1)).length := by simp only [tq]; rw [List.length_append]; omega
    have h' := h
    simp only [tq] at h'
    rcases List.mem_append.1 h' with h' | h'
    · rcases tq_mem t k x h' with h1 | ⟨c, h1, h2, j, h3, h4, h5⟩
      · exact Or.inl h1
      · exact Or.inr ⟨c, h1, h2, j, by omega, by omega, by rw [tq_get t 1 k j h4]; exact h5⟩
    · by_cases g : k < (tq t k).length
      · rw [if_pos g] at h'
        obtain ⟨i, h1, h2, h3⟩ := (mem_kids _ _ _ _).1 h'
        exact Or.inr ⟨i, h1, by simpa using h3, k, by omega, by omega, by rw [tq_get t 1 k k g]; exact h2.symm⟩
      · rw [if_neg g] at h'; cases h'
theorem tq_nodup (t : List Int) : ∀ k, (tq t k).Nodup
  | 0 => by simp [tq]
  | k + 1 => by
    simp only [tq]
    refine List.nodup_append.2 ⟨tq_nodup t k, ?_, fun x hx y hy e => ?_⟩
    · split
      · exact kids_nodup _ _ _
      · exact List.nodup_nil
    · subst e
      by_cases g : k < (tq t k).length
      · rw [if_pos g] at hy
        obtain ⟨i, h1, h2, h3⟩ := (mem_kids _ _ _ _).1 hy
        rcases tq_mem t k x hx with h | ⟨c, h4, h5, j, h6, h7, h8⟩
        · omega
        · obtain rfl : c = i := by omega
          have := nodup_getD (tq_nodup t k) h7 g (h8.trans h2)
          omega
      · rw [if_neg g] at hy; cases hy
theorem tq_closed (t : List Int) : ∀ k j, j < k → j < (tq t k).length → ∀ c, c < t.length → t.getD c 0 = (tq t k).getD j 0 → (c : Int) + 1 ∈ tq t k
  | 0, j, h, _, _, _, _ => by omega
  | k + 1, j, h1, h2, c, h3, h4 => by
    by_cases g : k < (tq t k).length
    · by_cases e : j = k
      · subst e
        rw [tq_get t 1 j j g] at h4
        show _ ∈ tq t j ++ _
        rw [if_pos g]
        exact List.mem_append_right _ ((mem_kids _ _ _ _).2 ⟨c, h3, h4, by simp⟩)
      · rw [tq_get t 1 k j (by omega)] at h4
        have := tq_closed t k j (by omega) (by omega) c h3 h4
        show _ ∈ tq t k ++ _
        exact List.mem_append_left _ this
    · have he : tq t (k + 1) = tq t k := by
        show tq t k ++ _ = _
        rw [if_neg g]; simp
      rw [he] at h2 h4 ⊢
      exact tq_closed t k j (by omega) h2 c h3 h4
theorem tq_stop (t : List Int) (k : Nat) (h : (tq t k).length ≤ k) : ∀ d, tq t (k + d) = tq t k
  | 0 => rfl
  | d + 1 => by
    have ih := tq_stop t k h d
    rw [← Nat.add_assoc]
    show tq t (k + d) ++ _ = _
    rw [ih, if_neg (by omega)]; simp
theorem tree_run (t : List Int) (ht : ∀ c, c < t.length → 0 ≤ t.getD c 0 ∧ t.getD c 0 ≤ (t.length : Int)) (hr : rootsFrom t 0 t.length = true) :
    ∃ w Q L, Run w t Q L ∧ L (w.length + 1) = w.length + 1 := by
  have hsub : ∀ k, tq t k ⊆ (List.range (t.length + 1)).map (fun i : Nat => (i : Int)) := fun k x hx => by
    rw [List.mem_map]
    rcases tq_mem t k x hx with h | ⟨c, h1, h2, _⟩
    · exact ⟨0, by simp, by simp [h]⟩
    · exact ⟨c + 1, by rw [List.mem_range]; omega, by omega⟩
  have hlen : ∀ k, (tq t k).length ≤ t.length + 1 := fun k => by
    have := (tq_nodup t k).length_le_of_subset (hsub k)
    simpa using this
  have hcl : ∀ v, v ∈ tq t (t.length + 1) → ∀ c, c < t.length → t.getD c 0 = v → (c : Int) + 1 ∈ tq t (t.length + 1) := fun v hv c hc e => by
    obtain ⟨j, hj, ej⟩ := List.mem_iff_getElem.1 hv
    have := hlen (t.length + 1)
    exact tq_closed t (t.length + 1) j (by omega) hj c hc (by rw [e, ← ej]; simp [List.getD_eq_getElem?_getD, List.getElem?_eq_getElem hj])
  have h00 : (0 : Int) ∈ tq t (t.length + 1) := by
    obtain ⟨r, e⟩ := tq_prefix t (t.length + 1) 0
    rw [Nat.zero_add] at e
    rw [e]
    simp [tq]
  have hin : ∀ m a, 0 ≤ a → a ≤ (t.length : Int) → chairs_rooted.climb t m a = true → a ∈ tq t (t.length + 1) := by
    intro m
    induction m with
    | zero => intro a _ _ h; simp [chairs_rooted.climb] at h; rw [h]; exact h00
    | succ m ih =>
      intro a h0 h1 h
      by_cases e : a = 0
      · rw [e]; exact h00
      · rw [chairs_rooted.climb, if_neg e] at h
        have hb := ht (a - 1).toNat (by omega)
        have hrd : rd t (a - 1) = t.getD (a - 1).toNat 0 := rfl
        rw [← hrd] at hb
        have := hcl _ (ih _ hb.1 hb.2 h) (a - 1).toNat (by omega) rfl
        rwa [show (((a - 1).toNat : Nat) : Int) + 1 = a by omega] at this
  have hall : ∀ c, c < t.length → (c : Int) + 1 ∈ tq t (t.length + 1) := fun c hc => by
    refine hin t.length _ (by omega) (by omega) ?_
    have := List.all_eq_true.1 hr c (by rw [List.mem_range]; exact hc)
    rwa [Nat.zero_add] at this
  have hQ : (tq t (t.length + 1)).length = t.length + 1 := by
    have hs : (List.range (t.length + 1)).map (fun i : Nat => (i : Int)) ⊆ tq t (t.length + 1) := fun x hx => by
      obtain ⟨i, h1, h2⟩ := List.mem_map.1 hx
      rw [List.mem_range] at h1
      cases i with
      | zero => rw [← h2]; exact h00
      | succ i => rw [← h2, show ((i + 1 : Nat) : Int) = (i : Int) + 1 by omega]; exact hall i (by omega)
    have hn : ((List.range (t.length + 1)).map (fun i : Nat => (i : Int))).Nodup := by
      rw [List.nodup_iff_pairwise_ne, List.pairwise_map]
      exact List.nodup_range.imp fun h e => h (by omega)
    have := hn.length_le_of_subset hs
    have h2 := hlen (t.length + 1)
    simp at this
    omega
  have hgt : ∀ k, k ≤ t.length → k < (tq t k).length := fun k hk => by
    refine Classical.byContradiction fun h => ?_
    have := tq_stop t k (by omega) (t.length + 1 - k)
    rw [show k + (t.length + 1 - k) = t.length + 1 by omega] at this
    rw [this] at hQ
    omega
  have htk : ∀ k, k ≤ t.length + 1 → (tq t (t.length + 1)).take (tq t k).length = tq t k := fun k hk => by
    obtain ⟨r, e⟩ := tq_prefix t (t.length + 1 - k) k
    rw [show k + (t.length + 1 - k) = t.length + 1 by omega] at e
    rw [e, List.take_left]
  have hget : ∀ k, k ≤ t.length → (tq t k).getD k 0 = (tq t (t.length + 1)).getD k 0 := fun k hk => by
    have := tq_get t (t.length + 1 - k) k k (hgt k hk)
    rw [show k + (t.length + 1 - k) = t.length + 1 by omega] at this
    exact this.symm
  have htm : ∀ c, c < t.length → t.getD c 0 ∈ tq t (t.length + 1) := fun c hc => by
    rcases tq_mem t (t.length + 1) _ (hall c hc) with h | ⟨d, h1, h2, j, h3, h4, h5⟩
    · omega
    · obtain rfl : d = c := by omega
      rw [← h5]
      simp [List.getD_eq_getElem?_getD, List.getElem?_eq_getElem h4]
  have hidx : ∀ c, c < t.length → (tq t (t.length + 1)).getD ((tq t (t.length + 1)).idxOf (t.getD c 0)) 0 = t.getD c 0 ∧ (tq t (t.length + 1)).idxOf (t.getD c 0) < t.length + 1 := fun c hc => by
    have hlt := List.idxOf_lt_length_iff.2 (htm c hc)
    refine ⟨?_, by omega⟩
    rw [List.getD_eq_getElem?_getD, List.getElem?_eq_getElem hlt]
    simp
  have hw : ∀ c, c < t.length → (t.map fun x => ((tq t (t.length + 1)).idxOf x : Int)).getD c 0 = ((tq t (t.length + 1)).idxOf (t.getD c 0) : Int) := fun c hc => by
    simp [List.getD_eq_getElem?_getD, hc]
  have hkids : ∀ k, k ≤ t.length → kids (k : Int) (t.map fun x => ((tq t (t.length + 1)).idxOf x : Int)) 0 = kids ((tq t k).getD k 0) t 0 := fun k hk => by
    refine kids_congr _ _ _ _ _ (by simp) fun c hc => ?_
    rw [List.length_map] at hc
    rw [hw c hc, hget k hk]
    obtain ⟨h1, h2⟩ := hidx c hc
    constructor
    · intro e
      rw [← h1, show (tq t (t.length + 1)).idxOf (t.getD c 0) = k by omega]
    · intro e
      have := nodup_getD (tq_nodup t (t.length + 1)) (by omega) (by omega) (h1.trans e)
      omega
  refine ⟨t.map fun x => ((tq t (t.length + 1)).idxOf x : Int), tq t (t.length + 1), fun k => (tq t k).length, ⟨by simp, by simpa using hQ, tq_nodup _ _, ?_, fun c hc => ?_, fun c hc => ?_, rfl, fun k hk => hgt k (by simpa using hk), fun k _ => by simpa using hlen k, fun k hk => ?_⟩, by simpa using hQ⟩
  · obtain ⟨r, e⟩ := tq_prefix t (t.length + 1) 0
    rw [Nat.zero_add] at e
    rw [e]
    rfl
  · rw [List.length_map] at hc ⊢
    rw [hw c hc]
    obtain ⟨h1, h2⟩ := hidx c hc
    refine ⟨by omega, ?_⟩
    refine Classical.byContradiction fun h => ?_
    have e : (tq t (t.length + 1)).idxOf (t.getD c 0) = t.length := by omega
    rw [e] at h1
    have h3 := hgt t.length (Nat.le_refl _)
    have h4 : (c : Int) + 1 ∈ kids ((tq t t.length).getD t.length 0) t 0 := (mem_kids _ _ _ _).2 ⟨c, hc, by rw [hget _ (Nat.le_refl _), h1], by simp⟩
    have h5 : (tq t (t.length + 1)).length = (tq t t.length).length + (kids ((tq t t.length).getD t.length 0) t 0).length := by
      show (tq t t.length ++ _).length = _
      rw [if_pos h3, List.length_append]
    have h6 := List.length_pos_of_mem h4
    omega
  · rw [List.length_map] at hc
    rw [hw c hc, Int.toNat_natCast, (hidx c hc).1]
  · rw [List.length_map] at hk
    show (tq t (t.length + 1)).take (tq t k).length ++ _ = (tq t (t.length + 1)).take (tq t (k + 1)).length
    rw [htk k (by omega), htk (k + 1) (by omega), hkids k hk]
    show _ = tq t k ++ _
    rw [if_pos (hgt k hk)]
end Go.Proofs.Ytfopeenjpdaacaa.MWood
