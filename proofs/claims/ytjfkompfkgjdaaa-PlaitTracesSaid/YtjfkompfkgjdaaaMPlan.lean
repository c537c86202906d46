/- The identity in products; a product of matchings without crossings has none: plain. -/
import Derived.Test.YtjfkompfkgjdaaaMAssoc
namespace Go.Proofs.Ytjfkompfkgjdaaa.G
/-! ### the identity -/
def idf (n z : Nat) : Nat := if z < n then z + n else z - n
theorem idf_mat {n : Nat} : Mat n (idf n) := by
  intro z hz
  unfold idf
  by_cases c : z < n
  · rw [if_pos c, if_neg (by omega)]; omega
  · rw [if_neg c, if_pos (by omega)]; omega
theorem idf_lo {n z : Nat} (h : z < n) : idf n z = n + z := by unfold idf; rw [if_pos h]; omega
theorem idf_hi {n z : Nat} : idf n (n + z) = z := by unfold idf; rw [if_neg (by omega)]; omega
theorem prod_id {n : Nat} {a : Nat → Nat} (ha : Mat n a) {p : Nat} (hp : p < 2 * n) : prod n a (idf n) p = a p := by
  have hi := @idf_mat n
  have out : ∀ z, z < n ∨ 3 * n ≤ z → ¬ pts (mids n) z := fun z h e => by have := mids_pts.1 e; omega
  have inn : ∀ z, n ≤ z → z < 3 * n → pts (mids n) z := fun z h1 h2 => mids_pts.2 ⟨h1, h2⟩
  -- from a point of the upper one
  have low : ∀ z, z < 2 * n → ∃ q, Path (jn n a (idf n)) (mids n) z q ∧ une n q = a z := by
    intro z hz
    have h1 := (ha z hz).1
    have e : jn n a (idf n) z = a z := jn_lo hz
    by_cases c : a z < n
    · exact ⟨a z, e ▸ .out z (by rw [e]; exact out _ (.inl c)), by unfold une; rw [if_pos c]⟩
    · obtain ⟨m, hm⟩ : ∃ m, a z = n + m := ⟨a z - n, by omega⟩
      have e2 : jn n a (idf n) (2 * n + m) = 3 * n + m := by rw [jn_hi (by omega), idf_lo (by omega)]; omega
      refine ⟨3 * n + m, .via z _ (by rw [e]; exact inn _ (by omega) (by omega)) ?_, by unfold une; rw [if_neg (by omega)]; omega⟩
      rw [e, hm, (tau_up ha hi (by omega)).1, ← e2]
      exact .out _ (by rw [e2]; exact out _ (.inr (by omega)))
  by_cases c : p < n
  · obtain ⟨q, h1, h2⟩ := low p hp
    rw [← prod_path ha hi hp (by unfold emb; rw [if_pos c]; exact h1), h2]
  · obtain ⟨m, rfl⟩ : ∃ m, p = n + m := ⟨p - n, by omega⟩
    obtain ⟨q, h1, h2⟩ := low (n + m) hp
    have e : jn n a (idf n) (2 * n + (n + m)) = 2 * n + m := by rw [jn_hi (by omega), idf_hi]
    have h3 : Path (jn n a (idf n)) (mids n) (emb n (n + m)) q := by
      have : emb n (n + m) = 2 * n + (n + m) := by unfold emb; rw [if_neg (by omega)]; omega
      rw [this]
      refine .via _ _ (by rw [e]; exact inn _ (by omega) (by omega)) ?_
      rw [e, (tau_up ha hi (by omega)).2]
      exact h1
    rw [← prod_path ha hi hp h3, h2]
theorem id_prod {n : Nat} {a : Nat → Nat} (ha : Mat n a) {p : Nat} (hp : p < 2 * n) : prod n (idf n) a p = a p := by
  have hi := @idf_mat n
  have out : ∀ z, z < n ∨ 3 * n ≤ z → ¬ pts (mids n) z := fun z h e => by have := mids_pts.1 e; omega
  have inn : ∀ z, n ≤ z → z < 3 * n → pts (mids n) z := fun z h1 h2 => mids_pts.2 ⟨h1, h2⟩
  have low : ∀ z, z < 2 * n → ∃ q, Path (jn n (idf n) a) (mids n) (2 * n + z) q ∧ une n q = a z := by
    intro z hz
    have h1 := (ha z hz).1
    have e : jn n (idf n) a (2 * n + z) = 2 * n + a z := jn_hi hz
    by_cases c : a z < n
    · have e2 : jn n (idf n) a (n + a z) = a z := by rw [jn_lo (by omega), idf_hi]
      refine ⟨a z, .via _ _ (by rw [e]; exact inn _ (by omega) (by omega)) ?_, by unfold une; rw [if_pos c]⟩
      rw [e, (tau_up hi ha c).2]
      have := Path.out (σ := jn n (idf n) a) (l := mids n) (n + a z) (by rw [e2]; exact out _ (.inl c))
      rwa [e2] at this
    · have := Path.out (σ := jn n (idf n) a) (l := mids n) (2 * n + z) (by rw [e]; exact out _ (.inr (by omega)))
      rw [e] at this
      exact ⟨_, this, by unfold une; rw [if_neg (by omega)]; omega⟩
  by_cases c : p < n
  · obtain ⟨q, h1, h2⟩ := low p hp
    have e : jn n (idf n) a p = n + p := by rw [jn_lo (by omega), idf_lo c]
    have h3 : Path (jn n (idf n) a) (mids n) (emb n p) q := by
      have : emb n p = p := by unfold emb; rw [if_pos c]
      rw [this]
      refine .via _ _ (by rw [e]; exact inn _ (by omega) (by omega)) ?_
      rw [e, (tau_up hi ha c).1]
      exact h1
    rw [← prod_path hi ha hp h3, h2]
  · obtain ⟨q, h1, h2⟩ := low p hp
    rw [← prod_path hi ha hp (by unfold emb; rw [if_neg c, Nat.add_comm]; exact h1), h2]
theorem cntP_none {P : Nat → Prop} (k : Nat) (h : ∀ i, i < k → ¬ P i) : cntP P k = 0 := by
  induction k with
  | zero => rfl
  | succ k ih => simp only [cntP]; rw [ih (fun i hi => h i (by omega)), if_neg (h k (by omega))]
theorem lops_id {n : Nat} {a : Nat → Nat} (ha : Mat n a) : lops n a (idf n) = 0 ∧ lops n (idf n) a = 0 := by
  have hi := @idf_mat n
  constructor
  · rw [lops_fst ha hi]
    refine cntP_none n (fun m hm h => ?_)
    have := h.1.2 (3 * n + m) ?_
    · have := mids_pts.1 this; omega
    · have c := Conn.s _ (Conn.t (σ := jn n a (idf n)) (τ := tau (mids n)) (x := n + m) _ .refl)
      rw [(tau_up ha hi hm).1, jn_hi (by omega), idf_lo hm] at c
      rwa [show 3 * n + m = 2 * n + (n + m) by omega]
  · rw [lops_fst hi ha]
    refine cntP_none n (fun m hm h => ?_)
    have := h.1.2 m ?_
    · have := mids_pts.1 this; omega
    · have c := Conn.s (σ := jn n (idf n) a) (τ := tau (mids n)) (x := n + m) _ .refl
      rwa [jn_lo (by omega), idf_hi] at c
/-! ### a product of diagrams without crossings has none -/
def bo (n i : Nat) : Nat := if i < n then i else 3 * n - 1 - i
def NCf (n : Nat) (a : Nat → Nat) : Prop := ∀ i k, i < 2 * n → k < 2 * n → ¬ (bo n i < bo n k ∧ bo n k < bo n (a i) ∧ bo n (a i) < bo n (a k))
def pos4 (n z : Nat) : Nat := if z < n then z else if z < 2 * n then 3 * n - 1 - z else if z < 3 * n then z else 7 * n - 1 - z
theorem crs_of (ps : Nat → Nat) (u v p q : Nat) (h1 : ¬ (ps u < ps p ∧ ps p < ps v ∧ ps v < ps q)) (h2 : ¬ (ps u < ps q ∧ ps q < ps v ∧ ps v < ps p)) (h3 : ¬ (ps v < ps p ∧ ps p < ps u ∧ ps u < ps q)) (h4 : ¬ (ps v < ps q ∧ ps q < ps u ∧ ps u < ps p))
    (h5 : ¬ (ps p < ps u ∧ ps u < ps q ∧ ps q < ps v)) (h6 : ¬ (ps p < ps v ∧ ps v < ps q ∧ ps q < ps u)) (h7 : ¬ (ps q < ps u ∧ ps u < ps p ∧ ps p < ps v)) (h8 : ¬ (ps q < ps v ∧ ps v < ps p ∧ ps p < ps u))
    (n1 : ps u ≠ ps p) (n2 : ps u ≠ ps q) (n3 : ps v ≠ ps p) (n4 : ps v ≠ ps q) : crs ps u v p q = false := by
  unfold crs
  by_cases c1 : ps p < ps u <;> by_cases c2 : ps q < ps u <;> by_cases c3 : ps p < ps v <;> by_cases c4 : ps q < ps v <;> simp only [c1, c2, c3, c4, decide_true, decide_false] <;> first | rfl | (exfalso; omega)
theorem of_crs (ps : Nat → Nat) (u v p q : Nat) (h : crs ps u v p q = false) : ¬ (ps u < ps p ∧ ps p < ps v ∧ ps v < ps q) := by
  intro ⟨a, b, c⟩
  unfold crs at h
  rw [decide_eq_false (by omega), decide_eq_false (by omega), decide_eq_true b, decide_eq_false (by omega)] at h
  exact absurd h (by decide)
theorem pos4_inj {n u v : Nat} (hu : u < 4 * n) (hv : v < 4 * n) (h : pos4 n u = pos4 n v) : u = v := by
  unfold pos4 at h
  split at h <;> split at h <;> (try split at h) <;> (try split at h) <;> (try split at h) <;> (try split at h) <;> omega
theorem pos4_lo {n z : Nat} (h : z < 2 * n) : pos4 n z = bo n z ∧ pos4 n z < 2 * n := by
  unfold pos4 bo
  by_cases c : z < n
  · rw [if_pos c, if_pos c]; omega
  · rw [if_neg c, if_neg c, if_pos h]; omega
theorem pos4_hi {n z : Nat} (h : z < 2 * n) : pos4 n (2 * n + z) = 2 * n + bo n z := by
  unfold pos4 bo
  by_cases c : z < n
  · rw [if_neg (by omega), if_neg (by omega), if_pos (by omega), if_pos c]
  · rw [if_neg (by omega), if_neg (by omega), if_neg (by omega), if_neg c]; omega
theorem jn_nc {n : Nat} {a b : Nat → Nat} (ha : Mat n a) (hb : Mat n b) (na : NCf n a) (nb : NCf n b) : NC (pos4 n) (jn n a b) := by
  have hi := jn_inv ha hb
  intro u p hu hp pu pv
  have hu4 := (jn_alive ha hb).1 hu
  have hp4 := (jn_alive ha hb).1 hp
  have hv4 := jn_lt ha hb hu4
  have hq4 := jn_lt ha hb hp4
  have n1 : pos4 n u ≠ pos4 n p := fun e => pu (pos4_inj hu4 hp4 e).symm
  have n2 : pos4 n u ≠ pos4 n (jn n a b p) := fun e => pv (by have := pos4_inj hu4 hq4 e; rw [this, hi p])
  have n3 : pos4 n (jn n a b u) ≠ pos4 n p := fun e => pv (pos4_inj hv4 hp4 e).symm
  have n4 : pos4 n (jn n a b u) ≠ pos4 n (jn n a b p) := fun e => pu (hi.inj (pos4_inj hv4 hq4 e)).symm
  rcases @jn_cases n u with cu | ⟨y, cu, rfl⟩ | cu
  · rcases @jn_cases n p with cp | ⟨x, cp, rfl⟩ | cp
    · have h1 := ha u cu
      have h2 := ha p cp
      rw [jn_lo cu] at n3 n4 ⊢
      rw [jn_lo cp] at n2 n4 ⊢
      have m1 := na u p cu cp
      have m2 := na u (a p) cu h2.1
      have m3 := na (a u) p h1.1 cp
      have m4 := na (a u) (a p) h1.1 h2.1
      have m5 := na p u cp cu
      have m6 := na p (a u) cp h1.1
      have m7 := na (a p) u h2.1 cu
      have m8 := na (a p) (a u) h2.1 h1.1
      rw [h2.2.2] at m2 m4 m7 m8
      rw [h1.2.2] at m3 m4 m6 m8
      rw [← (pos4_lo cu).1, ← (pos4_lo cp).1, ← (pos4_lo h1.1).1, ← (pos4_lo h2.1).1] at m1 m2 m3 m4 m5 m6 m7 m8
      exact crs_of _ _ _ _ _ m1 m2 m3 m4 m5 m6 m7 m8 n1 n2 n3 n4
    · have h1 := ha u cu
      have h2 := hb x cp
      rw [jn_lo cu] at n3 n4 ⊢
      rw [jn_hi cp] at n2 n4 ⊢
      have k1 := (pos4_lo cu).2
      have k2 := (pos4_lo h1.1).2
      have k3 := pos4_hi cp
      have k4 := pos4_hi h2.1
      apply crs_of <;> omega
    · omega
  · rcases @jn_cases n p with cp | ⟨x, cp, rfl⟩ | cp
    · have h1 := hb y cu
      have h2 := ha p cp
      rw [jn_hi cu] at n3 n4 ⊢
      rw [jn_lo cp] at n2 n4 ⊢
      have k1 := (pos4_lo cp).2
      have k2 := (pos4_lo h2.1).2
      have k3 := pos4_hi cu
      have k4 := pos4_hi h1.1
      apply crs_of <;> omega
    · have h1 := hb y cu
      have h2 := hb x cp
      rw [jn_hi cu] at n3 n4 ⊢
      rw [jn_hi cp] at n2 n4 ⊢
      have m1 := nb y x cu cp
      have m2 := nb y (b x) cu h2.1
      have m3 := nb (b y) x h1.1 cp
      have m4 := nb (b y) (b x) h1.1 h2.1
      have m5 := nb x y cp cu
      have m6 := nb x (b y) cp h1.1
      have m7 := nb (b x) y h2.1 cu
      have m8 := nb (b x) (b y) h2.1 h1.1
      rw [h2.2.2] at m2 m4 m7 m8
      rw [h1.2.2] at m3 m4 m6 m8
      have k1 := pos4_hi cu
      have k2 := pos4_hi cp
      have k3 := pos4_hi h1.1
      have k4 := pos4_hi h2.1
      apply crs_of <;> omega
    · omega
  · omega
/-- the pairs from index m on, rising -/
def prsA (f g : Nat → Nat) : Nat → Nat → List (Nat × Nat)
  | _, 0 => []
  | m, k + 1 => (f m, g m) :: prsA f g (m + 1) k
theorem prsA_perm (f g : Nat → Nat) (k : Nat) : ∀ m, (prs f g (m + k)).Perm (prsA f g m k ++ prs f g m) := by
  induction k with
  | zero => intro m; exact .refl _
  | succ k ih =>
    intro m
    have := ih (m + 1)
    rw [show m + (k + 1) = (m + 1) + k by omega]
    refine this.trans ?_
    simp only [prs, prsA, List.cons_append]
    exact List.perm_middle
theorem prsA_pts {f g : Nat → Nat} (k : Nat) : ∀ m z, pts (prsA f g m k) z ↔ ∃ i, m ≤ i ∧ i < m + k ∧ (z = f i ∨ z = g i) := by
  induction k with
  | zero => intro m z; exact ⟨fun h => absurd h (pts_nil z), fun ⟨i, a, b, _⟩ => by omega⟩
  | succ k ih =>
    intro m z
    simp only [prsA, pts_cons, ih]
    constructor
    · rintro (e | e | ⟨i, a, b, c⟩)
      · exact ⟨m, by omega, by omega, .inl e⟩
      · exact ⟨m, by omega, by omega, .inr e⟩
      · exact ⟨i, by omega, by omega, c⟩
    · rintro ⟨i, a, b, c⟩
      by_cases e : i = m
      · subst e
        rcases c with c | c
        · exact .inl c
        · exact .inr (.inl c)
      · exact .inr (.inr ⟨i, by omega, by omega, c⟩)
theorem mids_adj {n : Nat} (k : Nat) : ∀ (m : Nat) (σ : Nat → Nat), m + k = n → Inv2 σ → OK σ (prsA (up n) (dn n) m k) → (∀ z, σ z ≠ z → z < 4 * n ∧ ∀ j, j < m → z ≠ n + j ∧ z ≠ 2 * n + j) → Adjs (pos4 n) (prsA (up n) (dn n) m k) σ := by
  induction k with
  | zero => intro m σ _ _ _ _; trivial
  | succ k ih =>
    intro m σ hm hi h hz
    have h' := h
    obtain ⟨h0, h1, h2, h3, h4, h5⟩ := h'
    refine ⟨fun z az zx zy => ?_, ih (m + 1) _ (by omega) (con_inv hi h1 h2 h0) (h5.con hi h0 h3 h4) (fun z az => ?_)⟩
    · have a := hz z az
      have a1 : ∀ j, z = n + j → m < j := fun j e => by
        refine Classical.byContradiction fun q => ?_
        by_cases c : j = m
        · subst c; exact zx e
        · exact (a.2 j (by omega)).1 e
      have a2 : ∀ j, z = 2 * n + j → m < j := fun j e => by
        refine Classical.byContradiction fun q => ?_
        by_cases c : j = m
        · subst c; exact zy e
        · exact (a.2 j (by omega)).2 e
      have e1 : pos4 n (up n m) = 2 * n - 1 - m := by unfold pos4 up; rw [if_neg (by omega), if_pos (by omega)]; omega
      have e2 : pos4 n (dn n m) = 2 * n + m := by unfold pos4 dn; rw [if_neg (by omega), if_neg (by omega), if_pos (by omega)]
      rw [e1, e2]
      unfold pos4
      by_cases c1 : z < n
      · rw [if_pos c1]; omega
      · rw [if_neg c1]
        by_cases c2 : z < 2 * n
        · rw [if_pos c2]
          have := a1 (z - n) (by omega)
          omega
        · rw [if_neg c2]
          by_cases c3 : z < 3 * n
          · rw [if_pos c3]
            have := a2 (z - 2 * n) (by omega)
            omega
          · rw [if_neg c3]; omega
    · have n1 : σ z ≠ z := fun e => az (con_dead hi h1 h2 e)
      have n2 : ¬ (z = up n m ∨ z = dn n m) := fun e => az (con_dead2 e)
      have a := hz z n1
      refine ⟨a.1, fun j hj => ?_⟩
      by_cases c : j = m
      · subst c; exact ⟨fun e => n2 (.inl e), fun e => n2 (.inr e)⟩
      · exact a.2 j (by omega)
theorem prod_nc {n : Nat} {a b : Nat → Nat} (ha : Mat n a) (hb : Mat n b) (na : NCf n a) (nb : NCf n b) : NCf n (prod n a b) := by
  have hi := jn_inv ha hb
  have ho := mids_ok ha hb
  have pm : (mids n).Perm (prsA (up n) (dn n) 0 n) := by
    have := prsA_perm (up n) (dn n) n 0
    rw [Nat.zero_add] at this
    unfold mids
    simpa [prs] using this
  obtain ⟨same, okA⟩ := glue_perm pm _ hi ho
  have nc := glue_nc _ hi okA (fun u v hu hv e => pos4_inj ((jn_alive ha hb).1 hu) ((jn_alive ha hb).1 hv) e) (jn_nc ha hb na nb)
    (mids_adj n 0 _ (by omega) hi okA (fun z hz => ⟨(jn_alive ha hb).1 hz, fun j hj => by omega⟩))
  rw [← same] at nc
  intro i k hik hk c
  have hp := prod_mat ha hb
  have e1 := prod_emb ha hb hik
  have e2 := prod_emb ha hb hk
  have ai := glue_alive _ _ hi ho _ (emb_out hik).1 ((jn_alive ha hb).2 (emb_out hik).2)
  have ak := glue_alive _ _ hi ho _ (emb_out hk).1 ((jn_alive ha hb).2 (emb_out hk).2)
  have inj : ∀ x y, emb n x = emb n y → x = y := fun x y e => by have := congrArg (une n) e; rwa [une_emb, une_emb] at this
  have ne1 : emb n k ≠ emb n i := fun e => by have := inj _ _ e; subst this; omega
  have ne2 : emb n k ≠ (glue (mids n) (jn n a b)).1 (emb n i) := fun e => by
    rw [← e1.1] at e
    have e := inj _ _ e
    subst e
    rw [(hp i hik).2.2] at c
    omega
  have h := of_crs _ _ _ _ _ (nc (emb n i) (emb n k) ai ak ne1 ne2)
  rw [← e1.1, ← e2.1] at h
  have ord : ∀ x y, x < 2 * n → y < 2 * n → bo n x < bo n y → pos4 n (emb n x) < pos4 n (emb n y) := by
    intro x y hx hy hxy
    have v : ∀ z, z < 2 * n → pos4 n (emb n z) = if z < n then bo n z else 2 * n + bo n z := by
      intro z hz
      unfold emb
      by_cases d : z < n
      · rw [if_pos d, if_pos d, (pos4_lo hz).1]
      · rw [if_neg d, if_neg d, Nat.add_comm, pos4_hi hz]
    rw [v x hx, v y hy]
    unfold bo at hxy ⊢
    by_cases cx : x < n <;> by_cases cy : y < n <;> simp only [cx, cy, ↓reduceIte] at hxy ⊢ <;> omega
  exact h ⟨ord _ _ hik hk c.1, ord _ _ hk e1.2 c.2.1, ord _ _ e1.2 e2.2 c.2.2⟩
end Go.Proofs.Ytjfkompfkgjdaaa.G
