/- Three matchings on top of one another; other names: plain. -/
import Derived.Test.YtjfkompfkgjdaaaMJoin
namespace Go.Proofs.Ytjfkompfkgjdaaa.G
theorem prs_map (F f g : Nat → Nat) (k : Nat) : (prs f g k).map (fun p => (F p.1, F p.2)) = prs (fun i => F (f i)) (fun i => F (g i)) k := by
  induction k with
  | zero => rfl
  | succ k ih => simp only [prs, List.map_cons, ih]
theorem prs_congr {f g f' g' : Nat → Nat} (k : Nat) (h : ∀ i, i < k → f i = f' i ∧ g i = g' i) : prs f g k = prs f' g' k := by
  induction k with
  | zero => rfl
  | succ k ih =>
    have := h k (by omega)
    simp only [prs, ih (fun i hi => h i (by omega)), this.1, this.2]
theorem prs_mem {f g : Nat → Nat} {k : Nat} {p : Nat × Nat} (h : p ∈ prs f g k) : ∃ i, i < k ∧ p = (f i, g i) := by
  induction k with
  | zero => cases h
  | succ k ih =>
    rcases List.mem_cons.1 h with rfl | h
    · exact ⟨k, by omega, rfl⟩
    · obtain ⟨i, a, b⟩ := ih h; exact ⟨i, by omega, b⟩
theorem prs_flip {f g : Nat → Nat} (k : Nat) : ∀ σ : Nat → Nat, Inv2 σ → OK σ (prs f g k) → glue (prs g f k) σ = glue (prs f g k) σ := by
  induction k with
  | zero => intro σ _ _; rfl
  | succ k ih =>
    intro σ hi h
    obtain ⟨h0, h1, h2, h3, h4, h5⟩ := h
    have e := con_swap (f k) (g k) hi h0
    simp only [prs, glue]
    rw [← e.1, ← e.2, ih _ (con_inv hi h1 h2 h0) (h5.con hi h0 h3 h4)]
theorem OK.app {σ : Nat → Nat} {l l' : List (Nat × Nat)} (h : OK σ l) (h' : OK σ l') (hd : ∀ z, pts l z → ¬ pts l' z) : OK σ (l ++ l') := by
  induction l with
  | nil => exact h'
  | cons p l ih =>
    obtain ⟨x, y⟩ := p
    obtain ⟨h0, h1, h2, h3, h4, h5⟩ := h
    have pa : ∀ z, pts (l ++ l') z → pts l z ∨ pts l' z := fun z ⟨p, m, e⟩ => (List.mem_append.1 m).elim (fun m => .inl ⟨p, m, e⟩) (fun m => .inr ⟨p, m, e⟩)
    refine ⟨h0, h1, h2, fun q => ?_, fun q => ?_, ih h5 (fun z hz => hd z ((pts_cons _ _ _ _).2 (.inr (.inr hz))))⟩
    · exact (pa _ q).elim h3 (hd x ((pts_cons _ _ _ _).2 (.inl rfl)))
    · exact (pa _ q).elim h4 (hd y ((pts_cons _ _ _ _).2 (.inr (.inl rfl))))
theorem glue_ok (l l' : List (Nat × Nat)) : ∀ σ : Nat → Nat, Inv2 σ → OK σ (l ++ l') → OK (glue l σ).1 l' := by
  induction l with
  | nil => intro σ _ h; exact h
  | cons p l ih =>
    obtain ⟨x, y⟩ := p
    intro σ hi h
    obtain ⟨h0, h1, h2, h3, h4, h5⟩ := h
    exact ih _ (con_inv hi h1 h2 h0) (OK.con hi h0 h3 h4 h5)
/-- a product inside of something greater -/
theorem glue_sub {n : Nat} {a b F σ : Nat → Nat} (ha : Mat n a) (hb : Mat n b) (hF : ∀ u v, u < 4 * n → v < 4 * n → F u = F v → u = v) (h : Emb (4 * n) F (jn n a b) σ) {p : Nat} (hp : p < 2 * n) :
    (glue (prs (fun i => F (n + i)) (fun i => F (2 * n + i)) n) σ).1 (F (emb n p)) = F (emb n (prod n a b p)) := by
  have g := glue_emb hF (mids n) h (fun p hp => by obtain ⟨i, hi, rfl⟩ := prs_mem hp; simp only [up, dn]; omega)
  have e : (mids n).map (fun p => (F p.1, F p.2)) = prs (fun i => F (n + i)) (fun i => F (2 * n + i)) n := prs_map _ _ _ _
  rw [e] at g
  have := (g.1 (emb n p) (emb_out hp).2).2
  rw [this, (prod_emb ha hb hp).1]
theorem glue_sub2 {n : Nat} {a b F σ : Nat → Nat} (hF : ∀ u v, u < 4 * n → v < 4 * n → F u = F v → u = v) (h : Emb (4 * n) F (jn n a b) σ) :
    (glue (prs (fun i => F (n + i)) (fun i => F (2 * n + i)) n) σ).2 = lops n a b := by
  have g := glue_emb hF (mids n) h (fun p hp => by obtain ⟨i, hi, rfl⟩ := prs_mem hp; simp only [up, dn]; omega)
  have e : (mids n).map (fun p => (F p.1, F p.2)) = prs (fun i => F (n + i)) (fun i => F (2 * n + i)) n := prs_map _ _ _ _
  rw [e] at g
  exact g.2
/-! ### three on top of one another -/
def j3 (n : Nat) (a b c : Nat → Nat) (z : Nat) : Nat := if z < 2 * n then a z else if z < 4 * n then 2 * n + b (z - 2 * n) else if z < 6 * n then 4 * n + c (z - 4 * n) else z
theorem j3_a {n : Nat} {a b c : Nat → Nat} {z : Nat} (h : z < 2 * n) : j3 n a b c z = a z := by unfold j3; rw [if_pos h]
theorem j3_b {n : Nat} {a b c : Nat → Nat} {z : Nat} (h : z < 2 * n) : j3 n a b c (2 * n + z) = 2 * n + b z := by unfold j3; rw [if_neg (by omega), if_pos (by omega), Nat.add_sub_cancel_left]
theorem j3_c {n : Nat} {a b c : Nat → Nat} {z : Nat} (h : z < 2 * n) : j3 n a b c (4 * n + z) = 4 * n + c z := by unfold j3; rw [if_neg (by omega), if_neg (by omega), if_pos (by omega), Nat.add_sub_cancel_left]
theorem j3_off {n : Nat} {a b c : Nat → Nat} {z : Nat} (h : 6 * n ≤ z) : j3 n a b c z = z := by unfold j3; rw [if_neg (by omega), if_neg (by omega), if_neg (by omega)]
theorem j3_cases {n : Nat} (z : Nat) : z < 2 * n ∨ (∃ y, y < 2 * n ∧ z = 2 * n + y) ∨ (∃ y, y < 2 * n ∧ z = 4 * n + y) ∨ 6 * n ≤ z := by
  by_cases c1 : z < 2 * n
  · exact .inl c1
  · by_cases c2 : z < 4 * n
    · exact .inr (.inl ⟨z - 2 * n, by omega, by omega⟩)
    · by_cases c3 : z < 6 * n
      · exact .inr (.inr (.inl ⟨z - 4 * n, by omega, by omega⟩))
      · exact .inr (.inr (.inr (by omega)))
theorem j3_inv {n : Nat} {a b c : Nat → Nat} (ha : Mat n a) (hb : Mat n b) (hc : Mat n c) : Inv2 (j3 n a b c) := by
  intro z
  rcases @j3_cases n z with h | ⟨y, h, rfl⟩ | ⟨y, h, rfl⟩ | h
  · rw [j3_a h, j3_a (ha z h).1, (ha z h).2.2]
  · rw [j3_b h, j3_b (hb y h).1, (hb y h).2.2]
  · rw [j3_c h, j3_c (hc y h).1, (hc y h).2.2]
  · rw [j3_off h, j3_off h]
theorem j3_alive {n : Nat} {a b c : Nat → Nat} (ha : Mat n a) (hb : Mat n b) (hc : Mat n c) {z : Nat} (hz : z < 6 * n) : j3 n a b c z ≠ z := by
  rcases @j3_cases n z with h | ⟨y, h, rfl⟩ | ⟨y, h, rfl⟩ | h
  · rw [j3_a h]; exact (ha z h).2.1
  · rw [j3_b h]; intro e; exact (hb y h).2.1 (by omega)
  · rw [j3_c h]; intro e; exact (hc y h).2.1 (by omega)
  · omega
theorem jn_at {n : Nat} {a b : Nat → Nat} (ha : Mat n a) (hb : Mat n b) (z : Nat) (hz : z < 4 * n) : jn n a b z < 4 * n := jn_lt ha hb hz
theorem assoc {n : Nat} {a b c : Nat → Nat} (ha : Mat n a) (hb : Mat n b) (hc : Mat n c) :
    (∀ p, p < 2 * n → prod n (prod n a b) c p = prod n a (prod n b c) p) ∧ lops n (prod n a b) c + lops n a b = lops n a (prod n b c) + lops n b c := by
  have hab := prod_mat ha hb
  have hbc := prod_mat hb hc
  have hi := j3_inv ha hb hc
  let P := prs (fun i => n + i) (fun i => 2 * n + i) n
  let Q := prs (fun i => 3 * n + i) (fun i => 4 * n + i) n
  have okP : OK (j3 n a b c) P := prs_ok n (fun i j _ _ => by omega) (fun i hi => ⟨j3_alive ha hb hc (by omega), j3_alive ha hb hc (by omega)⟩)
  have okQ : OK (j3 n a b c) Q := prs_ok n (fun i j _ _ => by omega) (fun i hi => ⟨j3_alive ha hb hc (by omega), j3_alive ha hb hc (by omega)⟩)
  have ptP : ∀ z, pts P z → n ≤ z ∧ z < 3 * n := fun z h => by obtain ⟨i, a, b⟩ := (pts_prs _ _ _ _).1 h; omega
  have ptQ : ∀ z, pts Q z → 3 * n ≤ z ∧ z < 5 * n := fun z h => by obtain ⟨i, a, b⟩ := (pts_prs _ _ _ _).1 h; omega
  have okPQ : OK (j3 n a b c) (P ++ Q) := okP.app okQ (fun z h1 h2 => by have := ptP z h1; have := ptQ z h2; omega)
  obtain ⟨same, okQP⟩ := glue_perm (List.perm_append_comm (l₁ := P) (l₂ := Q)) _ hi okPQ
  rw [glue_app, glue_app] at same
  -- first the upper two
  have eP : Emb (4 * n) (fun z => z) (jn n a b) (j3 n a b c) := fun z hz => ⟨jn_lt ha hb hz, by
    rcases @jn_cases n z with h | ⟨y, h, rfl⟩ | h
    · show j3 n a b c z = jn n a b z
      rw [j3_a h, jn_lo h]
    · show j3 n a b c (2 * n + y) = jn n a b (2 * n + y)
      rw [j3_b h, jn_hi h]
    · omega⟩
  have p1 : ∀ p, p < 2 * n → (glue P (j3 n a b c)).1 (emb n p) = emb n (prod n a b p) := fun p hp => glue_sub (F := fun z => z) ha hb (fun u v _ _ e => e) eP hp
  have p2 : (glue P (j3 n a b c)).2 = lops n a b := glue_sub2 (F := fun z => z) (fun u v _ _ e => e) eP
  have p3 : ∀ y, y < 2 * n → (glue P (j3 n a b c)).1 (4 * n + y) = 4 * n + c y := fun y hy => by
    rw [glue_off (fun z => 4 * n ≤ z ∧ z < 6 * n) P (fun z hz => ?_) hi okP (fun p hp => ?_) (4 * n + y) (by omega), j3_c hy]
    · obtain ⟨x, rfl⟩ : ∃ x, z = 4 * n + x := ⟨z - 4 * n, by omega⟩
      rw [j3_c (by omega)]
      have := (hc x (by omega)).1
      omega
    · obtain ⟨i, h, rfl⟩ := prs_mem hp
      dsimp only
      omega
  let F : Nat → Nat := fun z => if z < 2 * n then emb n z else 2 * n + z
  have hF : ∀ u v, u < 4 * n → v < 4 * n → F u = F v → u = v := by
    intro u v hu hv e
    simp only [F, emb] at e
    split at e <;> split at e <;> (try split at e) <;> (try split at e) <;> omega
  have eF : Emb (4 * n) F (jn n (prod n a b) c) (glue P (j3 n a b c)).1 := fun z hz => ⟨jn_lt hab hc hz, by
    rcases @jn_cases n z with h | ⟨y, h, rfl⟩ | h
    · have := (hab z h).1
      simp only [F]
      rw [jn_lo h, if_pos h, if_pos this]
      exact p1 z h
    · simp only [F]
      rw [jn_hi h, if_neg (by omega), if_neg (by omega), show 2 * n + (2 * n + y) = 4 * n + y by omega, p3 y h]
      omega
    · omega⟩
  have qF : prs (fun i => F (n + i)) (fun i => F (2 * n + i)) n = Q := prs_congr n (fun i hi => by
    simp only [F, emb]
    rw [if_pos (by omega), if_neg (by omega), if_neg (by omega)]
    omega)
  have f1 : ∀ p, p < 2 * n → (glue Q (glue P (j3 n a b c)).1).1 (F (emb n p)) = F (emb n (prod n (prod n a b) c p)) := fun p hp => by
    rw [← qF]; exact glue_sub hab hc hF eF hp
  have f2 : (glue Q (glue P (j3 n a b c)).1).2 = lops n (prod n a b) c := by
    rw [← qF]; exact glue_sub2 hF eF
  -- first the lower two
  let G : Nat → Nat := fun z => 2 * n + z
  have eQ : Emb (4 * n) G (jn n b c) (j3 n a b c) := fun z hz => ⟨jn_lt hb hc hz, by
    rcases @jn_cases n z with h | ⟨y, h, rfl⟩ | h
    · simp only [G]; rw [j3_b h, jn_lo h]
    · simp only [G]; rw [show 2 * n + (2 * n + y) = 4 * n + y by omega, j3_c h, jn_hi h]; omega
    · omega⟩
  have gQ : prs (fun i => G (n + i)) (fun i => G (2 * n + i)) n = Q := prs_congr n (fun i hi => by simp only [G]; omega)
  have hG : ∀ u v, u < 4 * n → v < 4 * n → G u = G v → u = v := fun u v _ _ e => by simp only [G] at e; omega
  have q1 : ∀ p, p < 2 * n → (glue Q (j3 n a b c)).1 (2 * n + emb n p) = 2 * n + emb n (prod n b c p) := fun p hp => by
    rw [← gQ]; exact glue_sub hb hc hG eQ hp
  have q2 : (glue Q (j3 n a b c)).2 = lops n b c := by rw [← gQ]; exact glue_sub2 hG eQ
  have q3 : ∀ y, y < 2 * n → (glue Q (j3 n a b c)).1 y = a y := fun y hy => by
    rw [glue_off (fun z => z < 2 * n) Q (fun z hz => ?_) hi okQ (fun p hp => ?_) y hy, j3_a hy]
    · rw [j3_a hz]; exact (ha z hz).1
    · obtain ⟨i, h, rfl⟩ := prs_mem hp
      dsimp only
      omega
  let H : Nat → Nat := fun z => if z < 2 * n then z else 2 * n + emb n (z - 2 * n)
  have hH : ∀ u v, u < 4 * n → v < 4 * n → H u = H v → u = v := by
    intro u v hu hv e
    simp only [H, emb] at e
    split at e <;> split at e <;> (try split at e) <;> (try split at e) <;> omega
  have eH : Emb (4 * n) H (jn n a (prod n b c)) (glue Q (j3 n a b c)).1 := fun z hz => ⟨jn_lt ha hbc hz, by
    rcases @jn_cases n z with h | ⟨y, h, rfl⟩ | h
    · have := (ha z h).1
      simp only [H]
      rw [jn_lo h, if_pos h, if_pos this]
      exact q3 z h
    · have := (hbc y h).1
      simp only [H]
      rw [jn_hi h, if_neg (by omega), if_neg (by omega), Nat.add_sub_cancel_left, Nat.add_sub_cancel_left]
      exact q1 y h
    · omega⟩
  have pH : prs (fun i => H (n + i)) (fun i => H (2 * n + i)) n = P := prs_congr n (fun i hi => by
    simp only [H, emb]
    rw [if_pos (by omega), if_neg (by omega), Nat.add_sub_cancel_left, if_pos hi]
    exact ⟨rfl, rfl⟩)
  have h1 : ∀ p, p < 2 * n → (glue P (glue Q (j3 n a b c)).1).1 (H (emb n p)) = H (emb n (prod n a (prod n b c) p)) := fun p hp => by
    rw [← pH]; exact glue_sub ha hbc hH eH hp
  have h2 : (glue P (glue Q (j3 n a b c)).1).2 = lops n a (prod n b c) := by
    rw [← pH]; exact glue_sub2 hH eH
  have FH : ∀ p, p < 2 * n → F (emb n p) = H (emb n p) ∧ emb n p < 4 * n := by
    intro p hp
    simp only [F, H, emb]
    by_cases c1 : p < n
    · rw [if_pos c1, if_pos (by omega), if_pos c1, if_pos (by omega)]; omega
    · rw [if_neg c1, if_neg (by omega), if_neg (by omega), if_neg (by omega)]; omega
  constructor
  · intro p hp
    have s1 := congrArg Prod.fst same
    dsimp only at s1
    have e := f1 p hp
    rw [s1, (FH p hp).1, h1 p hp] at e
    have m1 := (prod_mat ha hbc p hp).1
    have m2 := (prod_mat hab hc p hp).1
    rw [← (FH _ m1).1] at e
    have := hF _ _ (FH _ m1).2 (FH _ m2).2 e
    have := congrArg (une n) this
    rw [une_emb, une_emb] at this
    exact this.symm
  · have s2 := congrArg Prod.snd same
    dsimp only at s2
    rw [f2, p2, h2, q2] at s2
    exact s2
end Go.Proofs.Ytjfkompfkgjdaaa.G
