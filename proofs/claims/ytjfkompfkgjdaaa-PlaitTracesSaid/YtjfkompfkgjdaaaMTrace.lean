/- Closed curves: the trace of a product, and how many there can be: plain. -/
import Derived.Test.YtjfkompfkgjdaaaMPlan
import Derived.Test.YtjfkompfkgjdaaaMPile
namespace Go.Proofs.Ytjfkompfkgjdaaa.G
/-! ### closed: every point with the one across -/
def ext (n : Nat) (d : Nat → Nat) (z : Nat) : Nat := if z < 2 * n then d z else z
theorem ext_lo {n : Nat} {d : Nat → Nat} {z : Nat} (h : z < 2 * n) : ext n d z = d z := by unfold ext; rw [if_pos h]
theorem ext_off {n : Nat} {d : Nat → Nat} {z : Nat} (h : 2 * n ≤ z) : ext n d z = z := by unfold ext; rw [if_neg (by omega)]
theorem ext_inv {n : Nat} {d : Nat → Nat} (hd : Mat n d) : Inv2 (ext n d) := by
  intro z
  by_cases c : z < 2 * n
  · rw [ext_lo c, ext_lo (hd z c).1, (hd z c).2.2]
  · rw [ext_off (z := z) (by omega), ext_off (by omega)]
def acr (n : Nat) : List (Nat × Nat) := prs (fun i => i) (fun i => n + i) n
theorem acr_ok {n : Nat} {d : Nat → Nat} (hd : Mat n d) : OK (ext n d) (acr n) :=
  prs_ok n (fun i j _ _ => by omega) (fun i hi => ⟨by rw [ext_lo (by omega)]; exact (hd i (by omega)).2.1, by rw [ext_lo (by omega)]; exact (hd _ (by omega)).2.1⟩)
/-- how many closed curves -/
def cls (n : Nat) (d : Nat → Nat) : Nat := (glue (acr n) (ext n d)).2
theorem acr_tau {n : Nat} {d : Nat → Nat} (hd : Mat n d) {z : Nat} (hz : z < 2 * n) : tau (acr n) z = idf n z := by
  unfold idf
  by_cases c : z < n
  · rw [if_pos c]
    have := (tau_prs n (acr_ok hd) z c).1
    rw [Nat.add_comm z n]; exact this
  · rw [if_neg c]
    have : tau (acr n) (n + (z - n)) = z - n := (tau_prs n (acr_ok hd) (z - n) (by omega)).2
    rwa [show n + (z - n) = z by omega] at this
/-- the steps of the walk, on the points -/
theorem conn_ext {n : Nat} {d : Nat → Nat} (hd : Mat n d) {x y : Nat} (hx : x < 2 * n) : Conn (ext n d) (tau (acr n)) x y ↔ Conn d (idf n) x y := by
  have hi := @idf_mat n
  constructor
  · intro h
    have : Conn d (idf n) x y ∧ y < 2 * n := by
      induction h with
      | refl => exact ⟨.refl, hx⟩
      | s y _ ih => rw [ext_lo ih.2]; exact ⟨.s _ ih.1, (hd y ih.2).1⟩
      | t y _ ih => rw [acr_tau hd ih.2]; exact ⟨.t _ ih.1, (hi y ih.2).1⟩
    exact this.1
  · intro h
    have : Conn (ext n d) (tau (acr n)) x y ∧ y < 2 * n := by
      induction h with
      | refl => exact ⟨.refl, hx⟩
      | s y _ ih => have := Conn.s _ ih.1; rw [ext_lo ih.2] at this; exact ⟨this, (hd y ih.2).1⟩
      | t y _ ih => have := Conn.t _ ih.1; rw [acr_tau hd ih.2] at this; exact ⟨this, (hi y ih.2).1⟩
    exact this.1
theorem conn_lt {n : Nat} {d e : Nat → Nat} (hd : Mat n d) (he : Mat n e) {x y : Nat} (hx : x < 2 * n) (h : Conn d e x y) : y < 2 * n := by
  induction h with
  | refl => exact hx
  | s y _ ih => exact (hd y ih).1
  | t y _ ih => exact (he y ih).1
theorem conn_symm {n : Nat} {d e : Nat → Nat} (hd : Mat n d) (he : Mat n e) {x y : Nat} (hx : x < 2 * n) (h : Conn d e x y) : Conn d e y x := by
  induction h with
  | refl => exact .refl
  | s y h ih =>
    have := conn_lt hd he hx h
    have s := Conn.s (σ := d) (τ := e) (x := d y) _ .refl
    rw [(hd y this).2.2] at s
    exact s.trans ih
  | t y h ih =>
    have := conn_lt hd he hx h
    have s := Conn.t (σ := d) (τ := e) (x := e y) _ .refl
    rw [(he y this).2.2] at s
    exact s.trans ih
theorem cntP_add (P : Nat → Prop) (m k : Nat) : cntP P (m + k) = cntP P m + cntP (fun i => P (m + i)) k := by
  induction k with
  | zero => rfl
  | succ k ih => rw [← Nat.add_assoc]; simp only [cntP]; rw [ih]; omega
/-- the program's count: the first points of the curves -/
theorem cls_fst {n : Nat} {d : Nat → Nat} (hd : Mat n d) : cls n d = cntP (Fst (fun z => z < 2 * n) d (idf n)) (2 * n) := by
  have hi := @idf_mat n
  unfold cls acr
  rw [glue_count _ _ _ _ (ext_inv hd) (acr_ok hd), show 2 * n = n + n by omega, cntP_add]
  have hz : cntP (fun i => Fst (fun z => z < 2 * n) d (idf n) (n + i)) n = 0 := cntP_none n (fun i hik h => by
    have := h.2 i (by omega) (by omega)
    have c := Conn.t (σ := d) (τ := idf n) (x := i) _ .refl
    rw [idf_lo hik] at c
    exact this c)
  rw [show n + n = 2 * n by omega] at *
  rw [hz, Nat.add_zero]
  refine cntP_congr n (fun j hj => ?_)
  constructor
  · intro m
    refine ⟨by omega, fun i hij hi2 c => ?_⟩
    have c' := conn_symm hd hi (by omega) c
    obtain ⟨i', a, b, e⟩ := m i (show Conn (ext n d) (tau (acr n)) j i from (conn_ext hd (by omega)).2 c')
    have e : i = i' ∨ i = n + i' := e
    omega
  · intro ⟨_, hf⟩ z hz
    have c : Conn d (idf n) j z := (conn_ext hd (by omega)).1 hz
    have hz2 := conn_lt hd hi (by omega) c
    have le : ∀ z, Conn d (idf n) j z → z < 2 * n → j ≤ z := fun z c hz => Classical.byContradiction fun h => hf z (by omega) hz (conn_symm hd hi (by omega) c)
    by_cases q : z < n
    · exact ⟨z, le z c hz2, q, .inl rfl⟩
    · have c2 := Conn.t _ c
      have e : idf n z = z - n := by unfold idf; rw [if_neg q]
      rw [e] at c2
      exact ⟨z - n, le _ c2 (by omega), by omega, .inr (show z = n + (z - n) by omega)⟩
theorem cls_rng {n : Nat} {d : Nat → Nat} (hn : 0 < n) (hd : Mat n d) : 1 ≤ cls n d ∧ cls n d ≤ n := by
  constructor
  · rw [cls_fst hd]
    have e : 2 * n = (2 * n - 1) + 1 := by omega
    have pos : ∀ (P : Nat → Prop) k, P 0 → 1 ≤ cntP P (k + 1) := by
      intro P k h
      induction k with
      | zero => simp only [cntP]; rw [if_pos h]; omega
      | succ k ih => simp only [cntP] at ih ⊢; omega
    rw [e]
    exact pos _ _ ⟨by omega, fun j hj => by omega⟩
  · unfold cls acr
    rw [glue_count _ _ _ _ (ext_inv hd) (acr_ok hd)]
    exact cntP_le _ _
/-- the trace: the curves of a product closed, with its loops, are those of both in a ring -/
theorem trace {n : Nat} {a b : Nat → Nat} (ha : Mat n a) (hb : Mat n b) : cls n (prod n a b) + lops n a b = cls n (prod n b a) + lops n b a := by
  have ring : ∀ {a b : Nat → Nat}, Mat n a → Mat n b → cls n (prod n a b) + lops n a b = (glue (mids n ++ prs (fun i => i) (fun i => 3 * n + i) n) (jn n a b)).2 := by
    intro a b ha hb
    have hp := prod_mat ha hb
    have hF : ∀ u v, u < 2 * n → v < 2 * n → emb n u = emb n v → u = v := fun u v _ _ e => by have := congrArg (une n) e; rwa [une_emb, une_emb] at this
    have h : Emb (2 * n) (emb n) (ext n (prod n a b)) (glue (mids n) (jn n a b)).1 := fun z hz => by
      rw [ext_lo hz]
      exact ⟨(hp z hz).1, (prod_emb ha hb hz).1.symm⟩
    have g := (glue_emb hF (acr n) h (fun p hp => by obtain ⟨i, hi, rfl⟩ := prs_mem hp; dsimp only; omega)).2
    have e : (acr n).map (fun p => (emb n p.1, emb n p.2)) = prs (fun i => i) (fun i => 3 * n + i) n := by
      unfold acr
      rw [prs_map]
      exact prs_congr n (fun i hi => by unfold emb; rw [if_pos hi, if_neg (by omega)]; omega)
    rw [e] at g
    rw [glue_app]
    show _ = _ + (glue (mids n) (jn n a b)).2
    rw [g]
    rfl
  rw [ring ha hb, ring hb ha]
  let S : Nat → Nat := fun z => if z < 2 * n then 2 * n + z else z - 2 * n
  have hS : ∀ u v, u < 4 * n → v < 4 * n → S u = S v → u = v := by
    intro u v hu hv e
    simp only [S] at e
    split at e <;> split at e <;> omega
  have eS : Emb (4 * n) S (jn n b a) (jn n a b) := fun z hz => ⟨jn_lt hb ha hz, by
    rcases @jn_cases n z with h | ⟨y, h, rfl⟩ | h
    · have := (hb z h).1
      simp only [S]; rw [jn_lo h, if_pos h, if_pos this, jn_hi h]
    · have := (ha y h).1
      simp only [S]; rw [jn_hi h, if_neg (by omega), if_neg (by omega), Nat.add_sub_cancel_left, Nat.add_sub_cancel_left, jn_lo h]
    · omega⟩
  have g := (glue_emb hS (mids n ++ prs (fun i => i) (fun i => 3 * n + i) n) eS (fun p hp => by
    rcases List.mem_append.1 hp with hp | hp
    · obtain ⟨i, hi, rfl⟩ := prs_mem hp; simp only [up, dn]; omega
    · obtain ⟨i, hi, rfl⟩ := prs_mem hp; dsimp only; omega)).2
  rw [← g, List.map_append]
  have e1 : (mids n).map (fun p => (S p.1, S p.2)) = prs (fun i => 3 * n + i) (fun i => i) n := by
    unfold mids
    rw [prs_map]
    exact prs_congr n (fun i hi => by simp only [S, up, dn]; rw [if_pos (by omega), if_neg (by omega)]; omega)
  have e2 : (prs (fun i => i) (fun i => 3 * n + i) n).map (fun p => (S p.1, S p.2)) = prs (dn n) (up n) n := by
    rw [prs_map]
    exact prs_congr n (fun i hi => by simp only [S, up, dn]; rw [if_pos (by omega), if_neg (by omega)]; omega)
  rw [e1, e2]
  have hi := jn_inv ha hb
  have okM := mids_ok ha hb
  have okO : OK (jn n a b) (prs (fun i => i) (fun i => 3 * n + i) n) := prs_ok n (fun i j _ _ => by omega) (fun i hi => ⟨(jn_alive ha hb).2 (by omega), (jn_alive ha hb).2 (by omega)⟩)
  have okMO : OK (jn n a b) (mids n ++ prs (fun i => i) (fun i => 3 * n + i) n) := okM.app okO (fun z h1 h2 => by
    have := mids_pts.1 h1
    obtain ⟨i, h, e⟩ := (pts_prs _ _ _ _).1 h2
    omega)
  obtain ⟨same, okOM⟩ := glue_perm (List.perm_append_comm (l₁ := mids n) (l₂ := prs (fun i => i) (fun i => 3 * n + i) n)) _ hi okMO
  rw [same, glue_app, glue_app]
  have f1 := prs_flip n _ hi okO
  rw [f1]
  have ok2 := glue_ok _ _ _ hi okOM
  have f2 := prs_flip n _ (glue_inv _ _ hi okO) ok2
  rw [f2]
  rfl
/-! ### halves -/
theorem cntP_not (P : Nat → Prop) (N : Nat) : cntP P N + cntP (fun i => ¬ P i) N = N := by
  induction N with
  | zero => rfl
  | succ N ih =>
    simp only [cntP]
    by_cases c : P N
    · rw [if_pos c, if_neg (fun h => h c)]; omega
    · rw [if_neg c, if_pos c]; omega
theorem cntP_mono {P Q : Nat → Prop} (N : Nat) (h : ∀ i, i < N → P i → Q i) : cntP P N ≤ cntP Q N := by
  induction N with
  | zero => exact Nat.le_refl _
  | succ N ih =>
    have := ih (fun i hi => h i (by omega))
    simp only [cntP]
    by_cases c : P N
    · rw [if_pos c, if_pos (h N (by omega) c)]; omega
    · rw [if_neg c]; omega
theorem cntP_eq {P Q : Nat → Prop} (N : Nat) (h : ∀ i, i < N → P i → Q i) (he : cntP P N = cntP Q N) : ∀ i, i < N → Q i → P i := by
  induction N with
  | zero => intro i hi; omega
  | succ N ih =>
    intro i hi hq
    have m := cntP_mono N (fun i hi => h i (by omega))
    simp only [cntP] at he
    by_cases c : P N
    · rw [if_pos c, if_pos (h N (by omega) c)] at he
      by_cases e : i = N
      · rw [e]; exact c
      · exact ih (fun i hi => h i (by omega)) (by omega) i (by omega) hq
    · by_cases d : Q N
      · rw [if_neg c, if_pos d] at he; omega
      · rw [if_neg c, if_neg d] at he
        by_cases e : i = N
        · subst e; exact absurd hq d
        · exact ih (fun i hi => h i (by omega)) (by omega) i (by omega) hq
open Classical in
theorem cntP_list (P : Nat → Prop) (N : Nat) : cntP P N = (List.range N).countP (fun i => decide (P i)) := by
  induction N with
  | zero => rfl
  | succ N ih =>
    rw [List.range_succ, List.countP_append, ← ih]
    simp only [cntP]
    by_cases c : P N <;> simp [c]
theorem cntP_perm {N : Nat} {A : Nat → Nat} (hA : PairN N A) (P : Nat → Prop) : cntP (fun i => P (A i)) N = cntP P N := by
  classical
  rw [cntP_list, cntP_list]
  have nd : ((List.range N).map A).Nodup := by
    unfold List.Nodup
    rw [List.pairwise_map]
    refine List.Pairwise.imp_of_mem (fun {a b} ha hb hne e => ?_) List.nodup_range
    have h1 := hA a (List.mem_range.1 ha)
    have h2 := hA b (List.mem_range.1 hb)
    exact hne (by rw [← h1.2.2, e, h2.2.2])
  have pm : ((List.range N).map A).Perm (List.range N) := (List.perm_ext_iff_of_nodup nd List.nodup_range).2 (fun x => by
    rw [List.mem_map, List.mem_range]
    constructor
    · rintro ⟨y, hy, rfl⟩; exact (hA y (List.mem_range.1 hy)).1
    · intro hx; exact ⟨A x, List.mem_range.2 (hA x hx).1, (hA x hx).2.2⟩)
  have := pm.countP_eq (fun i => decide (P i))
  rw [List.countP_map] at this
  rw [← this]
  congr 1
theorem pairs_of {N : Nat} {A : Nat → Nat} (hA : PairN N A) : Pairs (fun z => z < N) A := ⟨fun m h => (hA m h).1, fun m h => (hA m h).2.1, fun m h => (hA m h).2.2⟩
theorem connN_lt {N : Nat} {d e : Nat → Nat} (hd : PairN N d) (he : PairN N e) {x y : Nat} (hx : x < N) (h : Conn d e x y) : y < N := by
  induction h with
  | refl => exact hx
  | s y _ ih => exact (hd y ih).1
  | t y _ ih => exact (he y ih).1
theorem connN_symm {N : Nat} {d e : Nat → Nat} (hd : PairN N d) (he : PairN N e) {x y : Nat} (hx : x < N) (h : Conn d e x y) : Conn d e y x := by
  induction h with
  | refl => exact .refl
  | s y h ih =>
    have := connN_lt hd he hx h
    have s := Conn.s (σ := d) (τ := e) (x := d y) _ .refl
    rw [(hd y this).2.2] at s
    exact s.trans ih
  | t y h ih =>
    have := connN_lt hd he hx h
    have s := Conn.t (σ := d) (τ := e) (x := e y) _ .refl
    rw [(he y this).2.2] at s
    exact s.trans ih
theorem fst_not {N : Nat} {A B : Nat → Nat} (hA : PairN N A) {i : Nat} (hi : i < N) (h : Fst (fun z => z < N) A B i) : ¬ Fst (fun z => z < N) A B (A i) := by
  intro k
  have h1 := hA i hi
  by_cases c : i < A i
  · exact k.2 i c hi (.s _ .refl)
  · have s := Conn.s (σ := A) (τ := B) (x := A i) _ .refl
    rw [h1.2.2] at s
    exact h.2 (A i) (by omega) h1.1 s
theorem half {N : Nat} {A B : Nat → Nat} (hA : PairN N A) (hB : PairN N B) : 2 * cntP (Fst (fun z => z < N) A B) N ≤ N ∧ (2 * cntP (Fst (fun z => z < N) A B) N = N ↔ ∀ i, i < N → A i = B i) := by
  have e1 := cntP_perm hA (Fst (fun z => z < N) A B)
  have e2 := cntP_not (Fst (fun z => z < N) A B) N
  have m : ∀ i, i < N → Fst (fun z => z < N) A B (A i) → ¬ Fst (fun z => z < N) A B i := fun i hi h => by
    have := fst_not hA (hA i hi).1 h
    rwa [(hA i hi).2.2] at this
  have le := cntP_mono (P := fun i => Fst (fun z => z < N) A B (A i)) (Q := fun i => ¬ Fst (fun z => z < N) A B i) N m
  refine ⟨by omega, fun he => ?_, fun he => ?_⟩
  · have all := cntP_eq N m (by omega)
    have first : ∀ i, i < N → Fst (fun z => z < N) A B i → A i = B i := by
      intro i hi h
      have nb : ¬ Fst (fun z => z < N) A B (B i) := fun k => fst_not hB hi (fst_swap.1 h) (fst_swap.1 k)
      have k := all (B i) (hB i hi).1 nb
      have c : Conn A B i (A (B i)) := .s _ (.t _ .refl)
      have hk : A (B i) < N := (hA _ (hB i hi).1).1
      have e : A (B i) = i := by
        refine Classical.byContradiction fun ne => ?_
        by_cases q : i < A (B i)
        · exact k.2 i q hi c
        · exact h.2 (A (B i)) (by omega) hk (connN_symm hA hB hi c)
      rw [← e, (hA _ (hB i hi).1).2.2, e]
    intro j hj
    by_cases c : Fst (fun z => z < N) A B j
    · exact first j hj c
    · have k := all j hj c
      have e := first (A j) (hA j hj).1 k
      rw [(hA j hj).2.2] at e
      have := congrArg B e
      rw [(hB _ (hA j hj).1).2.2] at this
      exact this.symm
  · have two : ∀ x y, x < N → Conn A B x y → y = x ∨ y = A x := by
      intro x y hx h
      induction h with
      | refl => exact .inl rfl
      | s y _ ih =>
        rcases ih with e | e
        · exact .inr (by rw [e])
        · exact .inl (by rw [e, (hA x hx).2.2])
      | t y _ ih =>
        rcases ih with e | e
        · exact .inr (by rw [e, he x hx])
        · exact .inl (by rw [e, ← he _ (hA x hx).1, (hA x hx).2.2])
    have back : ∀ i, i < N → ¬ Fst (fun z => z < N) A B i → Fst (fun z => z < N) A B (A i) := by
      intro j hj h
      have hx : ∃ k, k < j ∧ k < N ∧ Conn A B k j := Classical.byContradiction fun e => h ⟨hj, fun k a b c => e ⟨k, a, b, c⟩⟩
      obtain ⟨k, kj, kN, c⟩ := hx
      rcases two k j kN c with e | e
      · omega
      · refine ⟨(hA j hj).1, fun i a b c2 => ?_⟩
        have ej : A j = k := by rw [e, (hA k kN).2.2]
        rw [ej] at a c2
        rcases two i k b c2 with q | q
        · omega
        · have := (hA i b).2.2
          rw [← q, ← e] at this
          omega
    have ge := cntP_mono (P := fun i => ¬ Fst (fun z => z < N) A B i) (Q := fun i => Fst (fun z => z < N) A B (A i)) N back
    omega
end Go.Proofs.Ytjfkompfkgjdaaa.G
