/- Parts of the proof of LawPlaitPowers, one behind the other: MAssoc MPlan LAssoc LRef LSame MTrace MTurn MPow LPow PurePlaitPowers LawPlaitPowers. -/
import Derived.Test.YtjfkompfkgjdaaaRows
import Derived.WalkKit
import Derived.ProofKit
import Derived.OpenShut
import Derived.ShutString
import Derived.ChangeOld
import Derived.Below
import Derived.SizedLaws
import Derived.Test.YtjfkompfkgjdaaaJPlaitPowers5
section
/- Three matchings on top of one another; other names: plain. -/
namespace Go.Proofs.Ytjfkompfkgjdaaa.G
theorem prs_map (F f g : Nat → Nat) (k : Nat) : (prs f g k).map (fun p => (F p.1, F p.2)) = prs (fun i => F (f i)) (fun i => F (g i)) k := by
  induction k with
  | zero => rfl
  | succ k ih => simp only [prs, List.map_cons, ih]
theorem prs_congr {f g f' g' : Nat → Nat} (k : Nat) (h : ∀ i, i < k → f i = f' i ∧ g i = g' i) : prs f g k = prs f' g' k := by
  induction k with
  | zero => rfl
  | succ k ih =>
    have := h k (by omega)
    simp only [prs, ih (fun i hi => h i (by omega)), this.1, this.2]
theorem prs_mem {f g : Nat → Nat} {k : Nat} {p : Nat × Nat} (h : p ∈ prs f g k) : ∃ i, i < k ∧ p = (f i, g i) := by
  induction k with
  | zero => cases h
  | succ k ih =>
    rcases List.mem_cons.1 h with rfl | h
    · exact ⟨k, by omega, rfl⟩
    · obtain ⟨i, a, b⟩ := ih h; exact ⟨i, by omega, b⟩
theorem prs_flip {f g : Nat → Nat} (k : Nat) : ∀ σ : Nat → Nat, Inv2 σ → OK σ (prs f g k) → glue (prs g f k) σ = glue (prs f g k) σ := by
  induction k with
  | zero => intro σ _ _; rfl
  | succ k ih =>
    intro σ hi h
    obtain ⟨h0, h1, h2, h3, h4, h5⟩ := h
    have e := con_swap (f k) (g k) hi h0
    simp only [prs, glue]
    rw [← e.1, ← e.2, ih _ (con_inv hi h1 h2 h0) (h5.con hi h0 h3 h4)]
theorem OK.app {σ : Nat → Nat} {l l' : List (Nat × Nat)} (h : OK σ l) (h' : OK σ l') (hd : ∀ z, pts l z → ¬ pts l' z) : OK σ (l ++ l') := by
  induction l with
  | nil => exact h'
  | cons p l ih =>
    obtain ⟨x, y⟩ := p
    obtain ⟨h0, h1, h2, h3, h4, h5⟩ := h
    have pa : ∀ z, pts (l ++ l') z → pts l z ∨ pts l' z := fun z ⟨p, m, e⟩ => (List.mem_append.1 m).elim (fun m => .inl ⟨p, m, e⟩) (fun m => .inr ⟨p, m, e⟩)
    refine ⟨h0, h1, h2, fun q => ?_, fun q => ?_, ih h5 (fun z hz => hd z ((pts_cons _ _ _ _).2 (.inr (.inr hz))))⟩
    · exact (pa _ q).elim h3 (hd x ((pts_cons _ _ _ _).2 (.inl rfl)))
    · exact (pa _ q).elim h4 (hd y ((pts_cons _ _ _ _).2 (.inr (.inl rfl))))
theorem glue_ok (l l' : List (Nat × Nat)) : ∀ σ : Nat → Nat, Inv2 σ → OK σ (l ++ l') → OK (glue l σ).1 l' := by
  induction l with
  | nil => intro σ _ h; exact h
  | cons p l ih =>
    obtain ⟨x, y⟩ := p
    intro σ hi h
    obtain ⟨h0, h1, h2, h3, h4, h5⟩ := h
    exact ih _ (con_inv hi h1 h2 h0) (OK.con hi h0 h3 h4 h5)
/-- a product inside of something greater -/
theorem glue_sub {n : Nat} {a b F σ : Nat → Nat} (ha : Mat n a) (hb : Mat n b) (hF : ∀ u v, u < 4 * n → v < 4 * n → F u = F v → u = v) (h : Emb (4 * n) F (jn n a b) σ) {p : Nat} (hp : p < 2 * n) :
    (glue (prs (fun i => F (n + i)) (fun i => F (2 * n + i)) n) σ).1 (F (emb n p)) = F (emb n (prod n a b p)) := by
  have g := glue_emb hF (mids n) h (fun p hp => by obtain ⟨i, hi, rfl⟩ := prs_mem hp; simp only [up, dn]; omega)
  have e : (mids n).map (fun p => (F p.1, F p.2)) = prs (fun i => F (n + i)) (fun i => F (2 * n + i)) n := prs_map _ _ _ _
  rw [e] at g
  have := (g.1 (emb n p) (emb_out hp).2).2
  rw [this, (prod_emb ha hb hp).1]
theorem glue_sub2 {n : Nat} {a b F σ : Nat → Nat} (hF : ∀ u v, u < 4 * n → v < 4 * n → F u = F v → u = v) (h : Emb (4 * n) F (jn n a b) σ) :
    (glue (prs (fun i => F (n + i)) (fun i => F (2 * n + i)) n) σ).2 = lops n a b := by
  have g := glue_emb hF (mids n) h (fun p hp => by obtain ⟨i, hi, rfl⟩ := prs_mem hp; simp only [up, dn]; omega)
  have e : (mids n).map (fun p => (F p.1, F p.2)) = prs (fun i => F (n + i)) (fun i => F (2 * n + i)) n := prs_map _ _ _ _
  rw [e] at g
  exact g.2
/-! ### three on top of one another -/
def j3 (n : Nat) (a b c : Nat → Nat) (z : Nat) : Nat := if z < 2 * n then a z else if z < 4 * n then 2 * n + b (z - 2 * n) else if z < 6 * n then 4 * n + c (z - 4 * n) else z
theorem j3_a {n : Nat} {a b c : Nat → Nat} {z : Nat} (h : z < 2 * n) : j3 n a b c z = a z := by unfold j3; rw [if_pos h]
theorem j3_b {n : Nat} {a b c : Nat → Nat} {z : Nat} (h : z < 2 * n) : j3 n a b c (2 * n + z) = 2 * n + b z := by unfold j3; rw [if_neg (by omega), if_pos (by omega), Nat.add_sub_cancel_left]
theorem j3_c {n : Nat} {a b c : Nat → Nat} {z : Nat} (h : z < 2 * n) : j3 n a b c (4 * n + z) = 4 * n + c z := by unfold j3; rw [if_neg (by omega), if_neg (by omega), if_pos (by omega), Nat.add_sub_cancel_left]
theorem j3_off {n : Nat} {a b c : Nat → Nat} {z : Nat} (h : 6 * n ≤ z) : j3 n a b c z = z := by unfold j3; rw [if_neg (by omega), if_neg (by omega), if_neg (by omega)]
theorem j3_cases {n : Nat} (z : Nat) : z < 2 * n ∨ (∃ y, y < 2 * n ∧ z = 2 * n + y) ∨ (∃ y, y < 2 * n ∧ z = 4 * n + y) ∨ 6 * n ≤ z := by
  by_cases c1 : z < 2 * n
  · exact .inl c1
  · by_cases c2 : z < 4 * n
    · exact .inr (.inl ⟨z - 2 * n, by omega, by omega⟩)
    · by_cases c3 : z < 6 * n
      · exact .inr (.inr (.inl ⟨z - 4 * n, by omega, by omega⟩))
      · exact .inr (.inr (.inr (by omega)))
theorem j3_inv {n : Nat} {a b c : Nat → Nat} (ha : Mat n a) (hb : Mat n b) (hc : Mat n c) : Inv2 (j3 n a b c) := by
  intro z
  rcases @j3_cases n z with h | ⟨y, h, rfl⟩ | ⟨y, h, rfl⟩ | h
  · rw [j3_a h, j3_a (ha z h).1, (ha z h).2.2]
  · rw [j3_b h, j3_b (hb y h).1, (hb y h).2.2]
  · rw [j3_c h, j3_c (hc y h).1, (hc y h).2.2]
  · rw [j3_off h, j3_off h]
theorem j3_alive {n : Nat} {a b c : Nat → Nat} (ha : Mat n a) (hb : Mat n b) (hc : Mat n c) {z : Nat} (hz : z < 6 * n) : j3 n a b c z ≠ z := by
  rcases @j3_cases n z with h | ⟨y, h, rfl⟩ | ⟨y, h, rfl⟩ | h
  · rw [j3_a h]; exact (ha z h).2.1
  · rw [j3_b h]; intro e; exact (hb y h).2.1 (by omega)
  · rw [j3_c h]; intro e; exact (hc y h).2.1 (by omega)
  · omega
theorem jn_at {n : Nat} {a b : Nat → Nat} (ha : Mat n a) (hb : Mat n b) (z : Nat) (hz : z < 4 * n) : jn n a b z < 4 * n := jn_lt ha hb hz
theorem assoc {n : Nat} {a b c : Nat → Nat} (ha : Mat n a) (hb : Mat n b) (hc : Mat n c) :
    (∀ p, p < 2 * n → prod n (prod n a b) c p = prod n a (prod n b c) p) ∧ lops n (prod n a b) c + lops n a b = lops n a (prod n b c) + lops n b c := by
  have hab := prod_mat ha hb
  have hbc := prod_mat hb hc
  have hi := j3_inv ha hb hc
  let P := prs (fun i => n + i) (fun i => 2 * n + i) n
  let Q := prs (fun i => 3 * n + i) (fun i => 4 * n + i) n
  have okP : OK (j3 n a b c) P := prs_ok n (fun i j _ _ => by omega) (fun i hi => ⟨j3_alive ha hb hc (by omega), j3_alive ha hb hc (by omega)⟩)
  have okQ : OK (j3 n a b c) Q := prs_ok n (fun i j _ _ => by omega) (fun i hi => ⟨j3_alive ha hb hc (by omega), j3_alive ha hb hc (by omega)⟩)
  have ptP : ∀ z, pts P z → n ≤ z ∧ z < 3 * n := fun z h => by obtain ⟨i, a, b⟩ := (pts_prs _ _ _ _).1 h; omega
  have ptQ : ∀ z, pts Q z → 3 * n ≤ z ∧ z < 5 * n := fun z h => by obtain ⟨i, a, b⟩ := (pts_prs _ _ _ _).1 h; omega
  have okPQ : OK (j3 n a b c) (P ++ Q) := okP.app okQ (fun z h1 h2 => by have := ptP z h1; have := ptQ z h2; omega)
  obtain ⟨same, okQP⟩ := glue_perm (List.perm_append_comm (l₁ := P) (l₂ := Q)) _ hi okPQ
  rw [glue_app, glue_app] at same
  -- first the upper two
  have eP : Emb (4 * n) (fun z => z) (jn n a b) (j3 n a b c) := fun z hz => ⟨jn_lt ha hb hz, by
    rcases @jn_cases n z with h | ⟨y, h, rfl⟩ | h
    · show j3 n a b c z = jn n a b z
      rw [j3_a h, jn_lo h]
    · show j3 n a b c (2 * n + y) = jn n a b (2 * n + y)
      rw [j3_b h, jn_hi h]
    · omega⟩
  have p1 : ∀ p, p < 2 * n → (glue P (j3 n a b c)).1 (emb n p) = emb n (prod n a b p) := fun p hp => glue_sub (F := fun z => z) ha hb (fun u v _ _ e => e) eP hp
  have p2 : (glue P (j3 n a b c)).2 = lops n a b := glue_sub2 (F := fun z => z) (fun u v _ _ e => e) eP
  have p3 : ∀ y, y < 2 * n → (glue P (j3 n a b c)).1 (4 * n + y) = 4 * n + c y := fun y hy => by
    rw [glue_off (fun z => 4 * n ≤ z ∧ z < 6 * n) P (fun z hz => ?_) hi okP (fun p hp => ?_) (4 * n + y) (by omega), j3_c hy]
    · obtain ⟨x, rfl⟩ : ∃ x, z = 4 * n + x := ⟨z - 4 * n, by omega⟩
      rw [j3_c (by omega)]
      have := (hc x (by omega)).1
      omega
    · obtain ⟨i, h, rfl⟩ := prs_mem hp
      dsimp only
      omega
  let F : Nat → Nat := fun z => if z < 2 * n then emb n z else 2 * n + z
  have hF : ∀ u v, u < 4 * n → v < 4 * n → F u = F v → u = v := by
    intro u v hu hv e
    simp only [F, emb] at e
    split at e <;> split at e <;> (try split at e) <;> (try split at e) <;> omega
  have eF : Emb (4 * n) F (jn n (prod n a b) c) (glue P (j3 n a b c)).1 := fun z hz => ⟨jn_lt hab hc hz, by
    rcases @jn_cases n z with h | ⟨y, h, rfl⟩ | h
    · have := (hab z h).1
      simp only [F]
      rw [jn_lo h, if_pos h, if_pos this]
      exact p1 z h
    · simp only [F]
      rw [jn_hi h, if_neg (by omega), if_neg (by omega), show 2 * n + (2 * n + y) = 4 * n + y by omega, p3 y h]
      omega
    · omega⟩
  have qF : prs (fun i => F (n + i)) (fun i => F (2 * n + i)) n = Q := prs_congr n (fun i hi => by
    simp only [F, emb]
    rw [if_pos (by omega), if_neg (by omega), if_neg (by omega)]
    omega)
  have f1 : ∀ p, p < 2 * n → (glue Q (glue P (j3 n a b c)).1).1 (F (emb n p)) = F (emb n (prod n (prod n a b) c p)) := fun p hp => by
    rw [← qF]; exact glue_sub hab hc hF eF hp
  have f2 : (glue Q (glue P (j3 n a b c)).1).2 = lops n (prod n a b) c := by
    rw [← qF]; exact glue_sub2 hF eF
  -- first the lower two
  let G : Nat → Nat := fun z => 2 * n + z
  have eQ : Emb (4 * n) G (jn n b c) (j3 n a b c) := fun z hz => ⟨jn_lt hb hc hz, by
    rcases @jn_cases n z with h | ⟨y, h, rfl⟩ | h
    · simp only [G]; rw [j3_b h, jn_lo h]
    · simp only [G]; rw [show 2 * n + (2 * n + y) = 4 * n + y by omega, j3_c h, jn_hi h]; omega
    · omega⟩
  have gQ : prs (fun i => G (n + i)) (fun i => G (2 * n + i)) n = Q := prs_congr n (fun i hi => by simp only [G]; omega)
  have hG : ∀ u v, u < 4 * n → v < 4 * n → G u = G v → u = v := fun u v _ _ e => by simp only [G] at e; omega
  have q1 : ∀ p, p < 2 * n → (glue Q (j3 n a b c)).1 (2 * n + emb n p) = 2 * n + emb n (prod n b c p) := fun p hp => by
    rw [← gQ]; exact glue_sub hb hc hG eQ hp
  have q2 : (glue Q (j3 n a b c)).2 = lops n b c := by rw [← gQ]; exact glue_sub2 hG eQ
  have q3 : ∀ y, y < 2 * n → (glue Q (j3 n a b c)).1 y = a y := fun y hy => by
    rw [glue_off (fun z => z < 2 * n) Q (fun z hz => ?_) hi okQ (fun p hp => ?_) y hy, j3_a hy]
    · rw [j3_a hz]; exact (ha z hz).1
    · obtain ⟨i, h, rfl⟩ := prs_mem hp
      dsimp only
      omega
  let H : Nat → Nat := fun z => if z < 2 * n then z else 2 * n + emb n (z - 2 * n)
  have hH : ∀ u v, u < 4 * n → v < 4 * n → H u = H v → u = v := by
    intro u v hu hv e
    simp only [H, emb] at e
    split at e <;> split at e <;> (try split at e) <;> (try split at e) <;> omega
  have eH : Emb (4 * n) H (jn n a (prod n b c)) (glue Q (j3 n a b c)).1 := fun z hz => ⟨jn_lt ha hbc hz, by
    rcases @jn_cases n z with h | ⟨y, h, rfl⟩ | h
    · have := (ha z h).1
      simp only [H]
      rw [jn_lo h, if_pos h, if_pos this]
      exact q3 z h
    · have := (hbc y h).1
      simp only [H]
      rw [jn_hi h, if_neg (by omega), if_neg (by omega), Nat.add_sub_cancel_left, Nat.add_sub_cancel_left]
      exact q1 y h
    · omega⟩
  have pH : prs (fun i => H (n + i)) (fun i => H (2 * n + i)) n = P := prs_congr n (fun i hi => by
    simp only [H, emb]
    rw [if_pos (by omega), if_neg (by omega), Nat.add_sub_cancel_left, if_pos hi]
    exact ⟨rfl, rfl⟩)
  have h1 : ∀ p, p < 2 * n → (glue P (glue Q (j3 n a b c)).1).1 (H (emb n p)) = H (emb n (prod n a (prod n b c) p)) := fun p hp => by
    rw [← pH]; exact glue_sub ha hbc hH eH hp
  have h2 : (glue P (glue Q (j3 n a b c)).1).2 = lops n a (prod n b c) := by
    rw [← pH]; exact glue_sub2 hH eH
  have FH : ∀ p, p < 2 * n → F (emb n p) = H (emb n p) ∧ emb n p < 4 * n := by
    intro p hp
    simp only [F, H, emb]
    by_cases c1 : p < n
    · rw [if_pos c1, if_pos (by omega), if_pos c1, if_pos (by omega)]; omega
    · rw [if_neg c1, if_neg (by omega), if_neg (by omega), if_neg (by omega)]; omega
  constructor
  · intro p hp
    have s1 := congrArg Prod.fst same
    dsimp only at s1
    have e := f1 p hp
    rw [s1, (FH p hp).1, h1 p hp] at e
    have m1 := (prod_mat ha hbc p hp).1
    have m2 := (prod_mat hab hc p hp).1
    rw [← (FH _ m1).1] at e
    have := hF _ _ (FH _ m1).2 (FH _ m2).2 e
    have := congrArg (une n) this
    rw [une_emb, une_emb] at this
    exact this.symm
  · have s2 := congrArg Prod.snd same
    dsimp only at s2
    rw [f2, p2, h2, q2] at s2
    exact s2
end Go.Proofs.Ytjfkompfkgjdaaa.G
end
section
/- The identity in products; a product of matchings without crossings has none: plain. -/
namespace Go.Proofs.Ytjfkompfkgjdaaa.G
/-! ### the identity -/
def idf (n z : Nat) : Nat := if z < n then z + n else z - n
theorem idf_mat {n : Nat} : Mat n (idf n) := by
  intro z hz
  unfold idf
  by_cases c : z < n
  · rw [if_pos c, if_neg (by omega)]; omega
  · rw [if_neg c, if_pos (by omega)]; omega
theorem idf_lo {n z : Nat} (h : z < n) : idf n z = n + z := by unfold idf; rw [if_pos h]; omega
theorem idf_hi {n z : Nat} : idf n (n + z) = z := by unfold idf; rw [if_neg (by omega)]; omega
theorem prod_id {n : Nat} {a : Nat → Nat} (ha : Mat n a) {p : Nat} (hp : p < 2 * n) : prod n a (idf n) p = a p := by
  have hi := @idf_mat n
  have out : ∀ z, z < n ∨ 3 * n ≤ z → ¬ pts (mids n) z := fun z h e => by have := mids_pts.1 e; omega
  have inn : ∀ z, n ≤ z → z < 3 * n → pts (mids n) z := fun z h1 h2 => mids_pts.2 ⟨h1, h2⟩
  -- from a point of the upper one
  have low : ∀ z, z < 2 * n → ∃ q, Path (jn n a (idf n)) (mids n) z q ∧ une n q = a z := by
    intro z hz
    have h1 := (ha z hz).1
    have e : jn n a (idf n) z = a z := jn_lo hz
    by_cases c : a z < n
    · exact ⟨a z, e ▸ .out z (by rw [e]; exact out _ (.inl c)), by unfold une; rw [if_pos c]⟩
    · obtain ⟨m, hm⟩ : ∃ m, a z = n + m := ⟨a z - n, by omega⟩
      have e2 : jn n a (idf n) (2 * n + m) = 3 * n + m := by rw [jn_hi (by omega), idf_lo (by omega)]; omega
      refine ⟨3 * n + m, .via z _ (by rw [e]; exact inn _ (by omega) (by omega)) ?_, by unfold une; rw [if_neg (by omega)]; omega⟩
      rw [e, hm, (tau_up ha hi (by omega)).1, ← e2]
      exact .out _ (by rw [e2]; exact out _ (.inr (by omega)))
  by_cases c : p < n
  · obtain ⟨q, h1, h2⟩ := low p hp
    rw [← prod_path ha hi hp (by unfold emb; rw [if_pos c]; exact h1), h2]
  · obtain ⟨m, rfl⟩ : ∃ m, p = n + m := ⟨p - n, by omega⟩
    obtain ⟨q, h1, h2⟩ := low (n + m) hp
    have e : jn n a (idf n) (2 * n + (n + m)) = 2 * n + m := by rw [jn_hi (by omega), idf_hi]
    have h3 : Path (jn n a (idf n)) (mids n) (emb n (n + m)) q := by
      have : emb n (n + m) = 2 * n + (n + m) := by unfold emb; rw [if_neg (by omega)]; omega
      rw [this]
      refine .via _ _ (by rw [e]; exact inn _ (by omega) (by omega)) ?_
      rw [e, (tau_up ha hi (by omega)).2]
      exact h1
    rw [← prod_path ha hi hp h3, h2]
theorem id_prod {n : Nat} {a : Nat → Nat} (ha : Mat n a) {p : Nat} (hp : p < 2 * n) : prod n (idf n) a p = a p := by
  have hi := @idf_mat n
  have out : ∀ z, z < n ∨ 3 * n ≤ z → ¬ pts (mids n) z := fun z h e => by have := mids_pts.1 e; omega
  have inn : ∀ z, n ≤ z → z < 3 * n → pts (mids n) z := fun z h1 h2 => mids_pts.2 ⟨h1, h2⟩
  have low : ∀ z, z < 2 * n → ∃ q, Path (jn n (idf n) a) (mids n) (2 * n + z) q ∧ une n q = a z := by
    intro z hz
    have h1 := (ha z hz).1
    have e : jn n (idf n) a (2 * n + z) = 2 * n + a z := jn_hi hz
    by_cases c : a z < n
    · have e2 : jn n (idf n) a (n + a z) = a z := by rw [jn_lo (by omega), idf_hi]
      refine ⟨a z, .via _ _ (by rw [e]; exact inn _ (by omega) (by omega)) ?_, by unfold une; rw [if_pos c]⟩
      rw [e, (tau_up hi ha c).2]
      have := Path.out (σ := jn n (idf n) a) (l := mids n) (n + a z) (by rw [e2]; exact out _ (.inl c))
      rwa [e2] at this
    · have := Path.out (σ := jn n (idf n) a) (l := mids n) (2 * n + z) (by rw [e]; exact out _ (.inr (by omega)))
      rw [e] at this
      exact ⟨_, this, by unfold une; rw [if_neg (by omega)]; omega⟩
  by_cases c : p < n
  · obtain ⟨q, h1, h2⟩ := low p hp
    have e : jn n (idf n) a p = n + p := by rw [jn_lo (by omega), idf_lo c]
    have h3 : Path (jn n (idf n) a) (mids n) (emb n p) q := by
      have : emb n p = p := by unfold emb; rw [if_pos c]
      rw [this]
      refine .via _ _ (by rw [e]; exact inn _ (by omega) (by omega)) ?_
      rw [e, (tau_up hi ha c).1]
      exact h1
    rw [← prod_path hi ha hp h3, h2]
  · obtain ⟨q, h1, h2⟩ := low p hp
    rw [← prod_path hi ha hp (by unfold emb; rw [if_neg c, Nat.add_comm]; exact h1), h2]
theorem cntP_none {P : Nat → Prop} (k : Nat) (h : ∀ i, i < k → ¬ P i) : cntP P k = 0 := by
  induction k with
  | zero => rfl
  | succ k ih => simp only [cntP]; rw [ih (fun i hi => h i (by omega)), if_neg (h k (by omega))]
theorem lops_id {n : Nat} {a : Nat → Nat} (ha : Mat n a) : lops n a (idf n) = 0 ∧ lops n (idf n) a = 0 := by
  have hi := @idf_mat n
  constructor
  · rw [lops_fst ha hi]
    refine cntP_none n (fun m hm h => ?_)
    have := h.1.2 (3 * n + m) ?_
    · have := mids_pts.1 this; omega
    · have c := Conn.s _ (Conn.t (σ := jn n a (idf n)) (τ := tau (mids n)) (x := n + m) _ .refl)
      rw [(tau_up ha hi hm).1, jn_hi (by omega), idf_lo hm] at c
      rwa [show 3 * n + m = 2 * n + (n + m) by omega]
  · rw [lops_fst hi ha]
    refine cntP_none n (fun m hm h => ?_)
    have := h.1.2 m ?_
    · have := mids_pts.1 this; omega
    · have c := Conn.s (σ := jn n (idf n) a) (τ := tau (mids n)) (x := n + m) _ .refl
      rwa [jn_lo (by omega), idf_hi] at c
/-! ### a product of diagrams without crossings has none -/
def bo (n i : Nat) : Nat := if i < n then i else 3 * n - 1 - i
def NCf (n : Nat) (a : Nat → Nat) : Prop := ∀ i k, i < 2 * n → k < 2 * n → ¬ (bo n i < bo n k ∧ bo n k < bo n (a i) ∧ bo n (a i) < bo n (a k))
def pos4 (n z : Nat) : Nat := if z < n then z else if z < 2 * n then 3 * n - 1 - z else if z < 3 * n then z else 7 * n - 1 - z
theorem crs_of (ps : Nat → Nat) (u v p q : Nat) (h1 : ¬ (ps u < ps p ∧ ps p < ps v ∧ ps v < ps q)) (h2 : ¬ (ps u < ps q ∧ ps q < ps v ∧ ps v < ps p)) (h3 : ¬ (ps v < ps p ∧ ps p < ps u ∧ ps u < ps q)) (h4 : ¬ (ps v < ps q ∧ ps q < ps u ∧ ps u < ps p))
    (h5 : ¬ (ps p < ps u ∧ ps u < ps q ∧ ps q < ps v)) (h6 : ¬ (ps p < ps v ∧ ps v < ps q ∧ ps q < ps u)) (h7 : ¬ (ps q < ps u ∧ ps u < ps p ∧ ps p < ps v)) (h8 : ¬ (ps q < ps v ∧ ps v < ps p ∧ ps p < ps u))
    (n1 : ps u ≠ ps p) (n2 : ps u ≠ ps q) (n3 : ps v ≠ ps p) (n4 : ps v ≠ ps q) : crs ps u v p q = false := by
  unfold crs
  by_cases c1 : ps p < ps u <;> by_cases c2 : ps q < ps u <;> by_cases c3 : ps p < ps v <;> by_cases c4 : ps q < ps v <;> simp only [c1, c2, c3, c4, decide_true, decide_false] <;> first | rfl | (exfalso; omega)
theorem of_crs (ps : Nat → Nat) (u v p q : Nat) (h : crs ps u v p q = false) : ¬ (ps u < ps p ∧ ps p < ps v ∧ ps v < ps q) := by
  intro ⟨a, b, c⟩
  unfold crs at h
  rw [decide_eq_false (by omega), decide_eq_false (by omega), decide_eq_true b, decide_eq_false (by omega)] at h
  exact absurd h (by decide)
theorem pos4_inj {n u v : Nat} (hu : u < 4 * n) (hv : v < 4 * n) (h : pos4 n u = pos4 n v) : u = v := by
  unfold pos4 at h
  split at h <;> split at h <;> (try split at h) <;> (try split at h) <;> (try split at h) <;> (try split at h) <;> omega
theorem pos4_lo {n z : Nat} (h : z < 2 * n) : pos4 n z = bo n z ∧ pos4 n z < 2 * n := by
  unfold pos4 bo
  by_cases c : z < n
  · rw [if_pos c, if_pos c]; omega
  · rw [if_neg c, if_neg c, if_pos h]; omega
theorem pos4_hi {n z : Nat} (h : z < 2 * n) : pos4 n (2 * n + z) = 2 * n + bo n z := by
  unfold pos4 bo
  by_cases c : z < n
  · rw [if_neg (by omega), if_neg (by omega), if_pos (by omega), if_pos c]
  · rw [if_neg (by omega), if_neg (by omega), if_neg (by omega), if_neg c]; omega
theorem jn_nc {n : Nat} {a b : Nat → Nat} (ha : Mat n a) (hb : Mat n b) (na : NCf n a) (nb : NCf n b) : NC (pos4 n) (jn n a b) := by
  have hi := jn_inv ha hb
  intro u p hu hp pu pv
  have hu4 := (jn_alive ha hb).1 hu
  have hp4 := (jn_alive ha hb).1 hp
  have hv4 := jn_lt ha hb hu4
  have hq4 := jn_lt ha hb hp4
  have n1 : pos4 n u ≠ pos4 n p := fun e => pu (pos4_inj hu4 hp4 e).symm
  have n2 : pos4 n u ≠ pos4 n (jn n a b p) := fun e => pv (by have := pos4_inj hu4 hq4 e; rw [this, hi p])
  have n3 : pos4 n (jn n a b u) ≠ pos4 n p := fun e => pv (pos4_inj hv4 hp4 e).symm
  have n4 : pos4 n (jn n a b u) ≠ pos4 n (jn n a b p) := fun e => pu (hi.inj (pos4_inj hv4 hq4 e)).symm
  rcases @jn_cases n u with cu | ⟨y, cu, rfl⟩ | cu
  · rcases @jn_cases n p with cp | ⟨x, cp, rfl⟩ | cp
    · have h1 := ha u cu
      have h2 := ha p cp
      rw [jn_lo cu] at n3 n4 ⊢
      rw [jn_lo cp] at n2 n4 ⊢
      have m1 := na u p cu cp
      have m2 := na u (a p) cu h2.1
      have m3 := na (a u) p h1.1 cp
      have m4 := na (a u) (a p) h1.1 h2.1
      have m5 := na p u cp cu
      have m6 := na p (a u) cp h1.1
      have m7 := na (a p) u h2.1 cu
      have m8 := na (a p) (a u) h2.1 h1.1
      rw [h2.2.2] at m2 m4 m7 m8
      rw [h1.2.2] at m3 m4 m6 m8
      rw [← (pos4_lo cu).1, ← (pos4_lo cp).1, ← (pos4_lo h1.1).1, ← (pos4_lo h2.1).1] at m1 m2 m3 m4 m5 m6 m7 m8
      exact crs_of _ _ _ _ _ m1 m2 m3 m4 m5 m6 m7 m8 n1 n2 n3 n4
    · have h1 := ha u cu
      have h2 := hb x cp
      rw [jn_lo cu] at n3 n4 ⊢
      rw [jn_hi cp] at n2 n4 ⊢
      have k1 := (pos4_lo cu).2
      have k2 := (pos4_lo h1.1).2
      have k3 := pos4_hi cp
      have k4 := pos4_hi h2.1
      apply crs_of <;> omega
    · omega
  · rcases @jn_cases n p with cp | ⟨x, cp, rfl⟩ | cp
    · have h1 := hb y cu
      have h2 := ha p cp
      rw [jn_hi cu] at n3 n4 ⊢
      rw [jn_lo cp] at n2 n4 ⊢
      have k1 := (pos4_lo cp).2
      have k2 := (pos4_lo h2.1).2
      have k3 := pos4_hi cu
      have k4 := pos4_hi h1.1
      apply crs_of <;> omega
    · have h1 := hb y cu
      have h2 := hb x cp
      rw [jn_hi cu] at n3 n4 ⊢
      rw [jn_hi cp] at n2 n4 ⊢
      have m1 := nb y x cu cp
      have m2 := nb y (b x) cu h2.1
      have m3 := nb (b y) x h1.1 cp
      have m4 := nb (b y) (b x) h1.1 h2.1
      have m5 := nb x y cp cu
      have m6 := nb x (b y) cp h1.1
      have m7 := nb (b x) y h2.1 cu
      have m8 := nb (b x) (b y) h2.1 h1.1
      rw [h2.2.2] at m2 m4 m7 m8
      rw [h1.2.2] at m3 m4 m6 m8
      have k1 := pos4_hi cu
      have k2 := pos4_hi cp
      have k3 := pos4_hi h1.1
      have k4 := pos4_hi h2.1
      apply crs_of <;> omega
    · omega
  · omega
/-- the pairs from index m on, rising -/
def prsA (f g : Nat → Nat) : Nat → Nat → List (Nat × Nat)
  | _, 0 => []
  | m, k + 1 => (f m, g m) :: prsA f g (m + 1) k
theorem prsA_perm (f g : Nat → Nat) (k : Nat) : ∀ m, (prs f g (m + k)).Perm (prsA f g m k ++ prs f g m) := by
  induction k with
  | zero => intro m; exact .refl _
  | succ k ih =>
    intro m
    have := ih (m + 1)
    rw [show m + (k + 1) = (m + 1) + k by omega]
    refine this.trans ?_
    simp only [prs, prsA, List.cons_append]
    exact List.perm_middle
theorem prsA_pts {f g : Nat → Nat} (k : Nat) : ∀ m z, pts (prsA f g m k) z ↔ ∃ i, m ≤ i ∧ i < m + k ∧ (z = f i ∨ z = g i) := by
  induction k with
  | zero => intro m z; exact ⟨fun h => absurd h (pts_nil z), fun ⟨i, a, b, _⟩ => by omega⟩
  | succ k ih =>
    intro m z
    simp only [prsA, pts_cons, ih]
    constructor
    · rintro (e | e | ⟨i, a, b, c⟩)
      · exact ⟨m, by omega, by omega, .inl e⟩
      · exact ⟨m, by omega, by omega, .inr e⟩
      · exact ⟨i, by omega, by omega, c⟩
    · rintro ⟨i, a, b, c⟩
      by_cases e : i = m
      · subst e
        rcases c with c | c
        · exact .inl c
        · exact .inr (.inl c)
      · exact .inr (.inr ⟨i, by omega, by omega, c⟩)
theorem mids_adj {n : Nat} (k : Nat) : ∀ (m : Nat) (σ : Nat → Nat), m + k = n → Inv2 σ → OK σ (prsA (up n) (dn n) m k) → (∀ z, σ z ≠ z → z < 4 * n ∧ ∀ j, j < m → z ≠ n + j ∧ z ≠ 2 * n + j) → Adjs (pos4 n) (prsA (up n) (dn n) m k) σ := by
  induction k with
  | zero => intro m σ _ _ _ _; trivial
  | succ k ih =>
    intro m σ hm hi h hz
    have h' := h
    obtain ⟨h0, h1, h2, h3, h4, h5⟩ := h'
    refine ⟨fun z az zx zy => ?_, ih (m + 1) _ (by omega) (con_inv hi h1 h2 h0) (h5.con hi h0 h3 h4) (fun z az => ?_)⟩
    · have a := hz z az
      have a1 : ∀ j, z = n + j → m < j := fun j e => by
        refine Classical.byContradiction fun q => ?_
        by_cases c : j = m
        · subst c; exact zx e
        · exact (a.2 j (by omega)).1 e
      have a2 : ∀ j, z = 2 * n + j → m < j := fun j e => by
        refine Classical.byContradiction fun q => ?_
        by_cases c : j = m
        · subst c; exact zy e
        · exact (a.2 j (by omega)).2 e
      have e1 : pos4 n (up n m) = 2 * n - 1 - m := by unfold pos4 up; rw [if_neg (by omega), if_pos (by omega)]; omega
      have e2 : pos4 n (dn n m) = 2 * n + m := by unfold pos4 dn; rw [if_neg (by omega), if_neg (by omega), if_pos (by omega)]
      rw [e1, e2]
      unfold pos4
      by_cases c1 : z < n
      · rw [if_pos c1]; omega
      · rw [if_neg c1]
        by_cases c2 : z < 2 * n
        · rw [if_pos c2]
          have := a1 (z - n) (by omega)
          omega
        · rw [if_neg c2]
          by_cases c3 : z < 3 * n
          · rw [if_pos c3]
            have := a2 (z - 2 * n) (by omega)
            omega
          · rw [if_neg c3]; omega
    · have n1 : σ z ≠ z := fun e => az (con_dead hi h1 h2 e)
      have n2 : ¬ (z = up n m ∨ z = dn n m) := fun e => az (con_dead2 e)
      have a := hz z n1
      refine ⟨a.1, fun j hj => ?_⟩
      by_cases c : j = m
      · subst c; exact ⟨fun e => n2 (.inl e), fun e => n2 (.inr e)⟩
      · exact a.2 j (by omega)
theorem prod_nc {n : Nat} {a b : Nat → Nat} (ha : Mat n a) (hb : Mat n b) (na : NCf n a) (nb : NCf n b) : NCf n (prod n a b) := by
  have hi := jn_inv ha hb
  have ho := mids_ok ha hb
  have pm : (mids n).Perm (prsA (up n) (dn n) 0 n) := by
    have := prsA_perm (up n) (dn n) n 0
    rw [Nat.zero_add] at this
    unfold mids
    simpa [prs] using this
  obtain ⟨same, okA⟩ := glue_perm pm _ hi ho
  have nc := glue_nc _ hi okA (fun u v hu hv e => pos4_inj ((jn_alive ha hb).1 hu) ((jn_alive ha hb).1 hv) e) (jn_nc ha hb na nb)
    (mids_adj n 0 _ (by omega) hi okA (fun z hz => ⟨(jn_alive ha hb).1 hz, fun j hj => by omega⟩))
  rw [← same] at nc
  intro i k hik hk c
  have hp := prod_mat ha hb
  have e1 := prod_emb ha hb hik
  have e2 := prod_emb ha hb hk
  have ai := glue_alive _ _ hi ho _ (emb_out hik).1 ((jn_alive ha hb).2 (emb_out hik).2)
  have ak := glue_alive _ _ hi ho _ (emb_out hk).1 ((jn_alive ha hb).2 (emb_out hk).2)
  have inj : ∀ x y, emb n x = emb n y → x = y := fun x y e => by have := congrArg (une n) e; rwa [une_emb, une_emb] at this
  have ne1 : emb n k ≠ emb n i := fun e => by have := inj _ _ e; subst this; omega
  have ne2 : emb n k ≠ (glue (mids n) (jn n a b)).1 (emb n i) := fun e => by
    rw [← e1.1] at e
    have e := inj _ _ e
    subst e
    rw [(hp i hik).2.2] at c
    omega
  have h := of_crs _ _ _ _ _ (nc (emb n i) (emb n k) ai ak ne1 ne2)
  rw [← e1.1, ← e2.1] at h
  have ord : ∀ x y, x < 2 * n → y < 2 * n → bo n x < bo n y → pos4 n (emb n x) < pos4 n (emb n y) := by
    intro x y hx hy hxy
    have v : ∀ z, z < 2 * n → pos4 n (emb n z) = if z < n then bo n z else 2 * n + bo n z := by
      intro z hz
      unfold emb
      by_cases d : z < n
      · rw [if_pos d, if_pos d, (pos4_lo hz).1]
      · rw [if_neg d, if_neg d, Nat.add_comm, pos4_hi hz]
    rw [v x hx, v y hy]
    unfold bo at hxy ⊢
    by_cases cx : x < n <;> by_cases cy : y < n <;> simp only [cx, cy, ↓reduceIte] at hxy ⊢ <;> omega
  exact h ⟨ord _ _ hik hk c.1, ord _ _ hk e1.2 c.2.1, ord _ _ e1.2 e2.2 c.2.2⟩
end Go.Proofs.Ytjfkompfkgjdaaa.G
end
section
/- Products of diagrams are diagrams; three in a row; the identity. -/
namespace Go.Proofs.Ytjfkompfkgjdaaa.L
open Go.RowKit Go.Proofs.Ytjfkompfkgjdaaa.PC Go.Proofs.YtjfkompfkgjdaaaW.PrintWords Go.Proofs.YtjfkompfkgjdaaaW.PrintLast Go.Proofs.Ytjfkompfkgjdaaa.G
theorem Ev.det {α : Type} {g : Nat → Option α} {r s : α} (h : Ev g r) (k : Ev g s) : r = s := by
  obtain ⟨K, h⟩ := h
  obtain ⟨L, k⟩ := k
  have a := h (max K L) (Nat.le_max_left ..)
  have b := k (max K L) (Nat.le_max_right ..)
  rw [a] at b
  exact Option.some.inj b
theorem dia_ref {n : Nat} {l : List Int} (h : Dia n l) : Ev (fun k => pomaderef07_Diagram.f k l) 0 := by
  have hl := h.lm.len
  have hn := h.lim
  refine dia_even h.pos hn hl (dia_l0_miss (by omega) (fun y hy => h.lm.good (by omega)) (dia_l1_miss (by omega) h.lm (crs_nc.1 h.nc) (2 * n) 0 (by omega)) l.length 0 (by omega))
theorem dia_yes {n : Nat} {l : List Int} (h : Dia n l) : Ev (fun k => plait_of.f k l) 0 ∧ Ev (fun k => pomaderef07_Diagram.f k l) 0 ∧ Ev (fun k => plait_diagram_arches.f k l) (strOfNums (brk n l), true) := by
  obtain ⟨e, h1, h2, h3⟩ := dia_both l
  have e0 := Ev.det h2 (dia_ref h)
  subst e0
  rcases h3 with c | c | ⟨_, m, d, h3⟩
  · omega
  · omega
  · obtain rfl := h.two d
    exact ⟨h1, h2, h3⟩
theorem dia_of {l : List Int} (h : Ev (fun k => pomaderef07_Diagram.f k l) 0) : ∃ n, Dia n l := by
  obtain ⟨e, h1, h2, h3⟩ := dia_both l
  have e0 := Ev.det h2 h
  subst e0
  rcases h3 with c | c | ⟨_, m, d, h3⟩
  · omega
  · omega
  · exact ⟨m, d⟩
theorem product_yes {n : Nat} {a b : List Int} (ha : Dia n a) (hb : Dia n b) : Ev (fun k => plait_Product.f k a b) (prodL n a b, (lops n (fn a) (fn b) : Int), 0) := by
  obtain ⟨e1, e2, _, d1, _, d2, h⟩ := product_plait a b
  have z1 := Ev.det d1 (dia_ref ha)
  have z2 := Ev.det d2 (dia_ref hb)
  have l1 := ha.lm.len
  have l2 := hb.lm.len
  rcases h with ⟨_, _, _, m, d, _, h⟩ | ⟨h, _⟩
  · obtain rfl := ha.two d
    exact h
  · exact absurd ⟨z1, z2, by omega⟩ h
theorem product_no {n m : Nat} {a b : List Int} (ha : Dia n a) (hb : Dia m b) (hne : a.length ≠ b.length) : ∃ e : Int, e ≠ 0 ∧ Ev (fun k => plait_Product.f k a b) ([], 0, e) := by
  obtain ⟨e1, e2, _, d1, _, d2, h⟩ := product_plait a b
  rcases h with ⟨_, _, h, _⟩ | ⟨_, he, h⟩
  · exact absurd h hne
  · exact ⟨_, he, h⟩
theorem nc_iff {n : Nat} {l : List Int} : NCD (2 * n) (Db n l) ↔ NCf n (fn l) := crs_nc
theorem ncf_congr {n : Nat} {a b : Nat → Nat} (h : ∀ z, z < 2 * n → a z = b z) (hb : NCf n b) : NCf n a := by
  intro i k hi hk
  rw [h i hi, h k hk]
  exact hb i k hi hk
theorem dia_prod {n : Nat} {a b : List Int} (ha : Dia n a) (hb : Dia n b) : Dia n (prodL n a b) :=
  ⟨ha.pos, ha.lim, prodL_lm ha.lm hb.lm, nc_iff.2 (ncf_congr (fun z hz => prodL_fn hz) (prod_nc ha.lm.mat hb.lm.mat (nc_iff.1 ha.nc) (nc_iff.1 hb.nc)))⟩
/-! ### the product depends on the points of the matchings alone -/
theorem jn_congr {n : Nat} {a a' b b' : Nat → Nat} (ha : ∀ z, z < 2 * n → a z = a' z) (hb : ∀ z, z < 2 * n → b z = b' z) : jn n a b = jn n a' b' := by
  funext z
  unfold jn
  by_cases c : z < 2 * n
  · rw [if_pos c, if_pos c, ha z c]
  · rw [if_neg c, if_neg c]
    by_cases d : z < 4 * n
    · rw [if_pos d, if_pos d, hb _ (by omega)]
    · rw [if_neg d, if_neg d]
theorem prod_congr {n : Nat} {a a' b b' : Nat → Nat} (ha : ∀ z, z < 2 * n → a z = a' z) (hb : ∀ z, z < 2 * n → b z = b' z) : prod n a b = prod n a' b' ∧ lops n a b = lops n a' b' := by
  unfold prod lops
  rw [jn_congr ha hb]
  exact ⟨rfl, rfl⟩
theorem lm_eq {n : Nat} {a b : List Int} (ha : LM n a) (hb : LM n b) (h : ∀ z, z < 2 * n → fn a z = fn b z) : a = b :=
  list_eq (by rw [ha.len, hb.len]) (fun z hz => by have := ha.len; rw [ha.nn z (by omega), hb.nn z (by omega), h z (by omega)])
theorem prodL_assoc {n : Nat} {a b c : List Int} (ha : LM n a) (hb : LM n b) (hc : LM n c) : prodL n (prodL n a b) c = prodL n a (prodL n b c) ∧
    lops n (fn (prodL n a b)) (fn c) + lops n (fn a) (fn b) = lops n (fn a) (fn (prodL n b c)) + lops n (fn b) (fn c) := by
  have h := assoc ha.mat hb.mat hc.mat
  have e1 := prod_congr (n := n) (a := fn (prodL n a b)) (a' := prod n (fn a) (fn b)) (b := fn c) (b' := fn c) (fun z hz => prodL_fn hz) (fun _ _ => rfl)
  have e2 := prod_congr (n := n) (a := fn a) (a' := fn a) (b := fn (prodL n b c)) (b' := prod n (fn b) (fn c)) (fun _ _ => rfl) (fun z hz => prodL_fn hz)
  refine ⟨lm_eq (prodL_lm (prodL_lm ha hb) hc) (prodL_lm ha (prodL_lm hb hc)) (fun z hz => ?_), ?_⟩
  · rw [prodL_fn hz, prodL_fn hz, e1.1, e2.1]; exact h.1 z hz
  · rw [e1.2, e2.2]; exact h.2
theorem idL_fn {n z : Nat} (h : z < 2 * n) : fn (idL n) z = G.idf n z := by
  show (rd (idL n) (z : Int)).toNat = _
  rw [idL_rd h, Int.toNat_natCast]; rfl
theorem prodL_id {n : Nat} {a : List Int} (ha : LM n a) : prodL n a (idL n) = a ∧ prodL n (idL n) a = a ∧ lops n (fn a) (fn (idL n)) = 0 ∧ lops n (fn (idL n)) (fn a) = 0 := by
  have e1 := prod_congr (n := n) (a := fn a) (a' := fn a) (b := fn (idL n)) (b' := G.idf n) (fun _ _ => rfl) (fun z hz => idL_fn hz)
  have e2 := prod_congr (n := n) (a := fn (idL n)) (a' := G.idf n) (b := fn a) (b' := fn a) (fun z hz => idL_fn hz) (fun _ _ => rfl)
  refine ⟨lm_eq (prodL_lm ha (idL_lm n)) ha (fun z hz => ?_), lm_eq (prodL_lm (idL_lm n) ha) ha (fun z hz => ?_), ?_, ?_⟩
  · rw [prodL_fn hz, e1.1]; exact prod_id ha.mat hz
  · rw [prodL_fn hz, e2.1]; exact id_prod ha.mat hz
  · rw [e1.2]; exact (lops_id ha.mat).1
  · rw [e2.2]; exact (lops_id ha.mat).2
theorem idL_dia {n : Nat} (h0 : 0 < n) (h1 : n ≤ 10) : Dia n (idL n) := by
  refine ⟨h0, h1, idL_lm n, nc_iff.2 (ncf_congr (fun z hz => idL_fn hz) (fun i k hi hk c => ?_))⟩
  unfold G.bo G.idf at c
  by_cases ci : i < n <;> by_cases ck : k < n <;> simp only [ci, ck, ↓reduceIte] at c <;> (repeat' split at c) <;> omega
theorem lops_le {n : Nat} {a b : Nat → Nat} (ha : Mat n a) (hb : Mat n b) : lops n a b ≤ n := by
  rw [lops_fst ha hb]; exact cntP_le _ _
end Go.Proofs.Ytjfkompfkgjdaaa.L
end
section
/- The product as the specification makes it is the gluing along the middle. -/
namespace Go.Proofs.Ytjfkompfkgjdaaa.L
open Go.RowKit Go.Proofs.Ytjfkompfkgjdaaa.PC Go.Proofs.YtjfkompfkgjdaaaW.PrintWords Go.Proofs.YtjfkompfkgjdaaaW.PrintLast Go.Proofs.Ytjfkompfkgjdaaa.G
theorem sg_step {n : Nat} {a b : List Int} (hn : n ≤ 500) (ha : LM n a) (hb : LM n b) (T : List Bool) (out : List Int) (i z : Nat) (hz : z < 4 * n) (k : Nat) :
    pomaderef07_product.l1 (k + 1) a b (n : Int) T out (i : Int) (z : Int) = pomaderef07_product.j3 k a b (n : Int) T out (i : Int) (sg n a b z : Int) := by
  have la := ha.len
  have lb := hb.len
  simp only [pomaderef07_product.l1]
  rw [pw64 (x := 2 * (n : Int)) (by omega) (by omega)]
  by_cases c : z < 2 * n
  · rw [if_pos (by omega), if_pos (by omega), if_pos (by omega), ha.nn z c, show sg n a b z = fn a z from jn_lo c]
  · obtain ⟨y, rfl⟩ : ∃ y, z = 2 * n + y := ⟨z - 2 * n, by omega⟩
    have hy : y < 2 * n := by omega
    have := (hb.mat y hy).1
    rw [if_neg (by omega), pw64 (x := ((2 * n + y : Nat) : Int) - 2 * (n : Int)) (by omega) (by omega), show ((2 * n + y : Nat) : Int) - 2 * (n : Int) = (y : Int) by omega, if_pos (by omega), if_pos (by omega), hb.nn y hy, pw64 (by omega) (by omega), show sg n a b (2 * n + y) = 2 * n + fn b y from jn_hi hy]
    congr 1
theorem j3_step {n : Nat} {a b : List Int} (hn : n ≤ 500) (T : List Bool) (hT : T.length = 4 * n) (out : List Int) (i x : Nat) (hx : x < 4 * n) (k : Nat) :
    pomaderef07_product.j3 (k + 1) a b (n : Int) T out (i : Int) (x : Int) = pomaderef07_product.j4 k a b (n : Int) (T.set x true) out (i : Int) (x : Int) (decide (x < n ∨ 3 * n ≤ x)) := by
  simp only [pomaderef07_product.j3]
  rw [if_pos (by omega), if_pos (by omega), Option.bind_some, pw64 (x := 3 * (n : Int)) (by omega) (by omega), Int.toNat_natCast]
  by_cases c : x < n
  · rw [if_pos (by omega), decide_eq_true (.inl c)]
  · rw [if_neg (by omega)]
    congr 1
    rw [decide_eq_decide]; omega
theorem ref_way {n : Nat} {a b : List Int} (hn : n ≤ 500) (ha : LM n a) (hb : LM n b) (P : Nat → Prop) (p0 : Nat) (out : List Int) (ho2 : out.length = 2 * n) (i : Nat) (hi : i < 2 * n) (d : Nat) : ∀ (z : Nat) (T : List Bool), z < 4 * n → T.length = 4 * n →
    ¬ pts (mids n) (itr (stp n a b) (d + 1) z) → (∀ i, i < d → pts (mids n) (itr (stp n a b) (i + 1) z)) →
    W1 (sg n a b) (tau (mids n)) (pts (mids n)) P p0 z (bM T) →
    ∃ q T', T'.length = 4 * n ∧ Path (sg n a b) (mids n) z q ∧ W0 (sg n a b) (tau (mids n)) (pts (mids n)) (fun u => P u ∨ u = p0) (bM T') ∧
      ∀ r, Ev (fun k => pomaderef07_product.l0 k a b (n : Int) T' (out.set i (une n q : Int)) ((i + 1 : Nat) : Int)) r → Ev (fun k => pomaderef07_product.l1 k a b (n : Int) T out (i : Int) (z : Int)) r := by
  have ho := mids_ok ha.mat hb.mat
  have hs := jn_inv ha.mat hb.mat
  have ht := tau_inv ho
  have bset : ∀ (T : List Bool) (x u : Nat), x < T.length → (bM (T.set x true) u ↔ bM T u ∨ u = x) := fun T x u h => getD_set T x u h
  induction d with
  | zero =>
    intro z T hz hT h1 _ hW
    have hn' : ¬ pts (mids n) (sg n a b z) := fun e => h1 (tau_pts ho e)
    have hlt : sg n a b z < 4 * n := jn_lt ha.mat hb.mat hz
    have hout := hn'
    rw [mids_pts] at hout
    refine ⟨sg n a b z, T.set (sg n a b z) true, by simpa using hT, .out _ hn', ?_, fun r hr => ?_⟩
    · have w := hW.fin hn'
      have same : ∀ u, pts (mids n) u → (bM (T.set (sg n a b z) true) u ↔ bM T u) := fun u hu => by
        rw [bset _ _ _ (by omega)]
        exact ⟨fun h => h.elim id (fun e => absurd (e ▸ hu) hn'), .inl⟩
      refine ⟨fun u hu => ?_, fun u hu h => ?_, fun u hu h => w.low u hu ((same u hu).1 h)⟩
      · by_cases m : pts (mids n) (sg n a b u)
        · have := w.cl u (hu.elim (fun h => .inl ⟨h.1, (same u h.1).1 h.2⟩) .inr)
          exact .inr ((same _ m).2 (this.resolve_left (fun f => f m)))
        · exact .inl m
      · exact (same _ (tau_pts ho hu)).2 (w.ct u hu ((same u hu).1 h))
    · refine Ev.step (fun k => sg_step hn ha hb T out i z hz k) (Ev.step (fun k => j3_step hn T hT out i _ hlt k) (Ev.step (fun k => ?_) hr))
      rw [decide_eq_true (by omega)]
      simp only [pomaderef07_product.j4]
      rw [if_pos trivial, pw64 (x := 3 * (n : Int)) (by omega) (by omega)]
      have e1 : wrap64 ((i : Int) + 1) = ((i + 1 : Nat) : Int) := by rw [pw64 (by omega) (by omega)]; rfl
      by_cases c : sg n a b z < n
      · rw [if_neg (by omega), if_pos (by omega), if_pos (by omega), Int.toNat_natCast, e1]
        unfold une; rw [if_pos c]
      · rw [if_pos (by omega), if_pos (by omega), if_pos (by omega), Int.toNat_natCast, e1, pw64 (x := 2 * (n : Int)) (by omega) (by omega), pw64 (by omega) (by omega)]
        unfold une; rw [if_neg c, show ((sg n a b z : Nat) : Int) - 2 * (n : Int) = ((sg n a b z - 2 * n : Nat) : Int) by omega]
  | succ d ih =>
    intro z T hz hT h1 h2 hW
    have h3 : pts (mids n) (sg n a b z) := by
      have := h2 0 (by omega)
      have e : itr (stp n a b) (0 + 1) z = tau (mids n) (sg n a b z) := rfl
      rw [e] at this
      have := tau_pts ho this
      rwa [ht] at this
    have h3' := mids_pts.1 h3
    have h4' := mids_pts.1 (tau_pts ho h3)
    have hM : ∀ u, pts (mids n) u → (bM ((T.set (sg n a b z) true).set (tau (mids n) (sg n a b z)) true) u ↔ bM T u ∨ u = sg n a b z ∨ u = tau (mids n) (sg n a b z)) := by
      intro u _
      rw [bset _ _ _ (by simp; omega), bset _ _ _ (by omega), or_assoc]
    obtain ⟨q, T', g1, g2, g3, g4⟩ := ih (tau (mids n) (sg n a b z)) _ (by omega) (by simpa using hT) h1 (fun i hi => h2 (i + 1) (by omega)) (hW.step hs ht (fun u hu => tau_pts ho hu) h3 hM)
    refine ⟨q, T', g1, .via _ _ h3 g2, g3, fun r hr => ?_⟩
    refine Ev.step (fun k => sg_step hn ha hb T out i z hz k) (Ev.step (fun k => j3_step hn T hT out i _ (by omega) k) (Ev.step (fun k => ?_) (g4 r hr)))
    rw [decide_eq_false (by omega)]
    simp only [pomaderef07_product.j4]
    rw [if_neg (by decide), pw64 (x := 2 * (n : Int)) (by omega) (by omega)]
    by_cases c : sg n a b z < 2 * n
    · have e : tau (mids n) (sg n a b z) = sg n a b z + n := by
        have := (tau_up ha.mat hb.mat (m := sg n a b z - n) (by omega)).1
        rw [show n + (sg n a b z - n) = sg n a b z by omega] at this
        rw [this]; omega
      rw [if_pos (by omega), pw64 (by omega) (by omega), if_pos (by omega), if_pos (by simp; omega), e]
      rfl
    · have e : tau (mids n) (sg n a b z) = sg n a b z - n := by
        have := (tau_up ha.mat hb.mat (m := sg n a b z - 2 * n) (by omega)).2
        rw [show 2 * n + (sg n a b z - 2 * n) = sg n a b z by omega] at this
        rw [this]; omega
      rw [if_neg (by omega), pw64 (by omega) (by omega), if_pos (by omega), if_pos (by simp; omega), e, show ((sg n a b z : Nat) : Int) - (n : Int) = ((sg n a b z - n : Nat) : Int) by omega]
      rfl
theorem ref_ways {n : Nat} {a b : List Int} (hn : n ≤ 500) (ha : LM n a) (hb : LM n b) (d : Nat) : ∀ (i : Nat) (out : List Int) (T : List Bool), i + d = 2 * n → out.length = 2 * n → T.length = 4 * n →
    (∀ j, j < i → rd out (j : Int) = (prod n (fn a) (fn b) j : Int)) →
    W0 (sg n a b) (tau (mids n)) (pts (mids n)) (fun u => ∃ j, j < i ∧ u = emb n j) (bM T) →
    ∃ T', T'.length = 4 * n ∧ W0 (sg n a b) (tau (mids n)) (pts (mids n)) (fun u => ∃ j, j < 2 * n ∧ u = emb n j) (bM T') ∧
      ∀ r, Ev (fun k => pomaderef07_product.l2 k a b (n : Int) T' (prodL n a b) 0 (n : Int)) r → Ev (fun k => pomaderef07_product.l0 k a b (n : Int) T out (i : Int)) r := by
  have ho := mids_ok ha.mat hb.mat
  have hs := jn_inv ha.mat hb.mat
  have ht := tau_inv ho
  induction d with
  | zero =>
    intro i out T hi hl hT hr hW
    obtain rfl : i = 2 * n := by omega
    have e : out = prodL n a b := list_eq (by rw [prodL_len, hl]) (fun z hz => by rw [prodL_rd (by omega), hr z (by omega)])
    refine ⟨T, hT, hW, fun r hr => Ev.step (fun k => ?_) hr⟩
    simp only [pomaderef07_product.l0]
    rw [pw64 (by omega) (by omega), if_neg (by omega), e]
  | succ d ih =>
    intro i out T hi hl hT hr hW
    have em := emb_out (n := n) (p := i) (by omega)
    obtain ⟨k, hk, h1, h2⟩ := leaves (f := stp n a b) (fun x y h => hs.inj (ht.inj h)) (pts (mids n)) (fun z => z - n) (2 * n) (fun z hz => by rw [mids_pts] at hz; omega) (fun u v hu hv h => by rw [mids_pts] at hu hv; omega) (emb n i) em.1
    have same : ∀ u, pts (mids n) u → (bM (T.set (emb n i) true) u ↔ bM T u) := fun u hu => by
      rw [show bM (T.set (emb n i) true) u ↔ _ from getD_set T _ u (by omega)]
      exact ⟨fun h => h.elim id (fun e => absurd (e ▸ hu) em.1), .inl⟩
    have w1 : W0 (sg n a b) (tau (mids n)) (pts (mids n)) (fun u => ∃ j, j < i ∧ u = emb n j) (bM (T.set (emb n i) true)) := by
      refine ⟨fun u hu => ?_, fun u hu h => ?_, fun u hu h => hW.low u hu ((same u hu).1 h)⟩
      · by_cases m : pts (mids n) (sg n a b u)
        · have := hW.cl u (hu.elim (fun h => .inl ⟨h.1, (same u h.1).1 h.2⟩) .inr)
          exact .inr ((same _ m).2 (this.resolve_left (fun f => f m)))
        · exact .inl m
      · exact (same _ (tau_pts ho hu)).2 (hW.ct u hu ((same u hu).1 h))
    obtain ⟨q, T1, g1, g2, g3, g4⟩ := ref_way hn ha hb _ (emb n i) out hl i (by omega) k (emb n i) (T.set (emb n i) true) em.2 (by simpa using hT) h1 h2 (w1.start em.1)
    rw [prod_path ha.mat hb.mat (by omega) g2] at g4
    obtain ⟨T', g5, g6, g7⟩ := ih (i + 1) (out.set i (prod n (fn a) (fn b) i : Int)) T1 (by omega) (by simpa using hl) g1 (by
      intro j hj
      rw [rd_set _ _ _ _ (by omega)]
      by_cases c : j = i
      · rw [if_pos c, c]
      · rw [if_neg c]; exact hr j (by omega)) (W0.congr g3 (fun u ⟨j, hj, hu⟩ => by
          by_cases c : j = i
          · exact .inr (c ▸ hu)
          · exact .inl ⟨j, by omega, hu⟩))
    refine ⟨T', g5, g6, fun r hr => ?_⟩
    refine Ev.step (f := fun k => pomaderef07_product.j1 k a b (n : Int) T out (i : Int) (emb n i : Int)) (fun k => ?_) (Ev.step (fun k => ?_) (g4 r (g7 r hr)))
    · simp only [pomaderef07_product.l0]
      rw [pw64 (x := 2 * (n : Int)) (by omega) (by omega), if_pos (by omega)]
      by_cases c : i < n
      · rw [if_neg (by omega), show emb n i = i by unfold emb; rw [if_pos c]]
      · rw [if_pos (by omega), pw64 (by omega) (by omega), show emb n i = i + 2 * n by unfold emb; rw [if_neg c]]
        rfl
    · simp only [pomaderef07_product.j1]
      rw [if_pos (by omega), if_pos (by omega), Int.toNat_natCast]
theorem ref_round {n : Nat} {a b : List Int} (hn : n ≤ 500) (ha : LM n a) (hb : LM n b) (T0 : List Bool) (out : List Int) (many : Int) (i : Nat) (hi : i < n) (c : Nat) : ∀ (m : Nat) (T : List Bool), T.count false ≤ c → T.length = 4 * n →
    (∀ m, m < n → ¬ CL n a b m → bM T (n + m)) → Rd (CL n a b) (fA n a) (fn b) (fun m => bM T0 (n + m)) (fun m => bM T (n + m)) i m →
    ∃ T', T'.length = 4 * n ∧ (∀ m, m < n → ¬ CL n a b m → bM T' (n + m)) ∧ (∀ m, CL n a b m → (bM T' (n + m) ↔ bM T0 (n + m) ∨ Conn (fA n a) (fn b) i m)) ∧
      ∀ r, Ev (fun k => pomaderef07_product.l2 k a b (n : Int) T' out many ((n + i + 1 : Nat) : Int)) r → Ev (fun k => pomaderef07_product.l3 k a b (n : Int) T out many ((n + i : Nat) : Int) ((n + m : Nat) : Int)) r := by
  obtain ⟨pa, pb⟩ := cl_pairs ha.mat hb.mat
  have hIx := cl_ixs ha.mat hb.mat
  have la := ha.len
  have lb := hb.len
  have stop : ∀ (m : Nat) (T : List Bool), T.length = 4 * n → m < n → bM T (n + m) → ∀ r, Ev (fun k => pomaderef07_product.l2 k a b (n : Int) T out many ((n + i + 1 : Nat) : Int)) r → Ev (fun k => pomaderef07_product.l3 k a b (n : Int) T out many ((n + i : Nat) : Int) ((n + m : Nat) : Int)) r := by
    intro m T hT hm ht r hr
    refine Ev.step (fun k => ?_) hr
    simp only [pomaderef07_product.l3]
    rw [if_pos (by omega), if_pos (by omega), if_pos (show rdOf false T ((n + m : Nat) : Int) = true from ht), pw64 (by omega) (by omega)]
    rfl
  induction c with
  | zero =>
    intro m T hc hT hU hR
    have hm := hR.uc.1
    have ht : bM T (n + m) := by
      unfold bM
      cases e : T.getD (n + m) false with
      | true => rfl
      | false => exact absurd (Nat.le_zero.1 hc) (count_pos (by omega) e)
    exact ⟨T, hT, hU, hR.fin pa pb ht, stop m T hT hm ht⟩
  | succ c ih =>
    intro m T hc hT hU hR
    have hm := hR.uc.1
    by_cases ht : bM T (n + m)
    · exact ⟨T, hT, hU, hR.fin pa pb ht, stop m T hT hm ht⟩
    · have uA := pa.mem m hR.uc
      have hA : fA n a m < n := uA.1
      have uB := pb.mem _ uA
      have hB : fn b (fA n a m) < n := uB.1
      have s1 := (hIx.sA m hR.uc).2
      simp only [up] at s1
      rw [jn_lo (by omega)] at s1
      have e := count_set T (n + m) (by omega) (by unfold bM at ht; simpa using ht)
      have e2 := count_set_le (T.set (n + m) true) (n + fA n a m)
      have e3 := count_set_le ((T.set (n + m) true).set (n + fA n a m) true) (2 * n + fn b (fA n a m))
      have bs : ∀ (T : List Bool) (x u : Nat), x < T.length → (bM (T.set x true) u ↔ bM T u ∨ u = x) := fun T x u h => getD_set T x u h
      have all : ∀ m', m' < n → (bM (((T.set (n + m) true).set (n + fA n a m) true).set (2 * n + fn b (fA n a m)) true) (n + m') ↔ bM T (n + m') ∨ m' = m ∨ m' = fA n a m) := by
        intro m' hm'
        rw [bs _ _ _ (by simp; omega), bs _ _ _ (by simp; omega), bs _ _ _ (by omega)]
        constructor
        · rintro (((h | h) | h) | h)
          · exact .inl h
          · exact .inr (.inl (by omega))
          · exact .inr (.inr (by omega))
          · omega
        · rintro (h | h | h)
          · exact .inl (.inl (.inl h))
          · exact .inl (.inl (.inr (by rw [h])))
          · exact .inl (.inr (by rw [h]))
      obtain ⟨T', g1, g2, g3, g4⟩ := ih (fn b (fA n a m)) _ (by omega) (by simpa using hT)
        (fun m' hm' h => (all m' hm').2 (.inl (hU m' hm' h))) (hR.step pa pb ht (fun m' um' => all m' um'.1))
      refine ⟨T', g1, g2, g3, fun r hr => ?_⟩
      refine Ev.step (fun k => ?_) (g4 r hr)
      simp only [pomaderef07_product.l3]
      have f1 : rd a ((n + m : Nat) : Int) = ((n + fA n a m : Nat) : Int) := by rw [ha.nn _ (by omega), s1]
      have f2 : rd b ((fA n a m : Nat) : Int) = (fn b (fA n a m) : Int) := hb.nn _ (by omega)
      rw [if_pos (by omega), if_pos (by omega), if_neg (show ¬ rdOf false T ((n + m : Nat) : Int) = true from ht), if_pos (by omega), f1, if_pos (by omega), if_pos (by omega), pw64 (x := ((n + fA n a m : Nat) : Int) - (n : Int)) (by omega) (by omega), show ((n + fA n a m : Nat) : Int) - (n : Int) = (fA n a m : Int) by omega, if_pos (by omega), if_pos (by omega), f2, pw64 (x := 2 * (n : Int)) (by omega) (by omega), pw64 (x := 2 * (n : Int) + (fn b (fA n a m) : Int)) (by omega) (by omega), if_pos (by omega), if_pos (by omega), pw64 (by omega) (by omega), show 2 * (n : Int) + (fn b (fA n a m) : Int) - (n : Int) = ((n + fn b (fA n a m) : Nat) : Int) by omega, show (2 * (n : Int) + (fn b (fA n a m) : Int)).toNat = 2 * n + fn b (fA n a m) by omega]
      rfl
theorem ref_loops {n : Nat} {a b : List Int} (hn : n ≤ 500) (ha : LM n a) (hb : LM n b) (out : List Int) (d : Nat) : ∀ (i : Nat) (T : List Bool), i + d = n → T.length = 4 * n →
    (∀ m, m < n → ¬ CL n a b m → bM T (n + m)) → MetI (CL n a b) (fA n a) (fn b) i (fun m => bM T (n + m)) →
    Ev (fun k => pomaderef07_product.l2 k a b (n : Int) T out (cntP (Fst (CL n a b) (fA n a) (fn b)) i : Int) ((n + i : Nat) : Int)) (out, (cntP (Fst (CL n a b) (fA n a) (fn b)) n : Int)) := by
  obtain ⟨pa, pb⟩ := cl_pairs ha.mat hb.mat
  induction d with
  | zero =>
    intro i T hi hT hU hM
    obtain rfl : i = n := by omega
    refine Ev.step (f := fun _ => some (out, (cntP (Fst (CL i a b) (fA i a) (fn b)) i : Int))) (fun k => ?_) (Ev.now _)
    simp only [pomaderef07_product.l2]
    rw [pw64 (by omega) (by omega), if_neg (by omega)]
  | succ d ih =>
    intro i T hi hT hU hM
    have hle := cntP_le (Fst (CL n a b) (fA n a) (fn b)) i
    by_cases c : bM T (n + i)
    · obtain ⟨m1, m2⟩ := hM.skip (fun _ => c)
      have := ih (i + 1) T (by omega) hT hU m1
      simp only [cntP] at this
      rw [if_neg m2] at this
      refine Ev.step (fun k => ?_) this
      simp only [pomaderef07_product.l2]
      rw [pw64 (x := 2 * (n : Int)) (by omega) (by omega), if_pos (by omega), if_pos (by omega), if_pos (by omega), if_pos (show rdOf false T ((n + i : Nat) : Int) = true from c), pw64 (by omega) (by omega)]
      rfl
    · have ui : CL n a b i := Classical.byContradiction fun e => c (hU i (by omega) e)
      obtain ⟨ca, cb⟩ := hM.closed pa pb
      obtain ⟨m2, g1, g2, g3, g4⟩ := ref_round hn ha hb T out (cntP (Fst (CL n a b) (fA n a) (fn b)) i + 1 : Nat) i (by omega) _ i T (Nat.le_refl _) hT hU (Rd.start pa pb ca cb ui c)
      obtain ⟨n1, n2⟩ := hM.round ui c g3
      have := ih (i + 1) m2 (by omega) g1 g2 n1
      simp only [cntP] at this
      rw [if_pos n2] at this
      refine Ev.step (fun k => ?_) (g4 _ this)
      simp only [pomaderef07_product.l2]
      rw [pw64 (x := 2 * (n : Int)) (by omega) (by omega), if_pos (by omega), if_pos (by omega), if_pos (by omega), if_neg (show ¬ rdOf false T ((n + i : Nat) : Int) = true from c), pw64 (by omega) (by omega)]
      rfl
/-- the specification's product is the gluing -/
theorem ref_product {n : Nat} {a b : List Int} (hn : n ≤ 500) (ha : LM n a) (hb : LM n b) : Ev (fun k => pomaderef07_product.f k a b) (prodL n a b, (lops n (fn a) (fn b) : Int)) := by
  have ho := mids_ok ha.mat hb.mat
  have la := ha.len
  have w0 : W0 (sg n a b) (tau (mids n)) (pts (mids n)) (fun u => ∃ j, j < 0 ∧ u = emb n j) (bM (List.replicate (4 * n) false)) := by
    have no : ∀ u, ¬ bM (List.replicate (4 * n) false) u := fun u h => by
      unfold bM at h
      rw [List.getD_eq_getElem?_getD, List.getElem?_replicate] at h
      split at h <;> simp at h
    exact ⟨fun u hu => hu.elim (fun h => absurd h.2 (no u)) (fun h => by obtain ⟨j, hj, _⟩ := h.2; omega), fun u _ h => absurd h (no u), fun u _ h => absurd h (no u)⟩
  obtain ⟨T, g1, g2, g3⟩ := ref_ways hn ha hb (2 * n) 0 (List.replicate (2 * n) 0) (List.replicate (4 * n) false) (by omega) (by simp) (by simp) (fun j hj => by omega) w0
  have all := g2.all (fun u hu => (tau_out ho).2 hu) (fun u hu => by
    by_cases c : u < 4 * n
    · have e := emb_une hu c; exact .inl ⟨une n u, e.2, e.1.symm⟩
    · exact .inr (jn_off (by omega)))
  have hT : ∀ m, m < n → (bM T (n + m) ↔ ¬ CL n a b m) := fun m hm => by
    rw [← met_cl ha.mat hb.mat hm, ← all (n + m) (mids_pts.2 (by omega))]
  have g4 := ref_loops hn ha hb (prodL n a b) n 0 T (by omega) g1 (fun m hm h => (hT m hm).2 h) (fun m um => ⟨fun t => absurd um ((hT m um.1).1 t), fun ⟨j, hj, _⟩ => by omega⟩)
  rw [← lops_fst ha.mat hb.mat] at g4
  have g5 := g3 _ g4
  refine Ev.congr (fun k => ?_) g5
  have e : wrap64 ((a.length : Int) / 2) = (n : Int) := by rw [pw64 (by omega) (by omega)]; omega
  have e4 : wrap64 (4 * (n : Int)) = ((4 * n : Nat) : Int) := by rw [pw64 (by omega) (by omega)]; omega
  have e2 : wrap64 (2 * (n : Int)) = ((2 * n : Nat) : Int) := by rw [pw64 (by omega) (by omega)]; omega
  unfold pomaderef07_product.f
  rw [e, e4, e2, if_pos (by omega), if_pos (by omega), if_pos (by omega), if_pos (by omega), Int.toNat_natCast, Int.toNat_natCast]
  rfl
end Go.Proofs.Ytjfkompfkgjdaaa.L
end
section
/- Product by the program and by the specification. -/
namespace Go.Proofs.Ytjfkompfkgjdaaa.L
open Go.RowKit Go.Proofs.Ytjfkompfkgjdaaa.PC Go.Proofs.YtjfkompfkgjdaaaW.PrintWords Go.Proofs.YtjfkompfkgjdaaaW.PrintLast Go.Proofs.Ytjfkompfkgjdaaa.G
/-- what two lists make -/
theorem product_both (a b : List Int) : ∃ e1 e2 : Int, Ev (fun k => plait_of.f k a) e1 ∧ Ev (fun k => pomaderef07_Diagram.f k a) e1 ∧ Ev (fun k => plait_of.f k b) e2 ∧ Ev (fun k => pomaderef07_Diagram.f k b) e2 ∧
    ((e1 = 0 ∧ e2 = 0 ∧ a.length = b.length ∧ ∃ n, Dia n a ∧ Dia n b ∧ Ev (fun k => plait_Product.f k a b) (prodL n a b, (lops n (fn a) (fn b) : Int), 0) ∧ Ev (fun k => pomaderef07_Product.f k a b) (prodL n a b, (lops n (fn a) (fn b) : Int), 0)) ∨
     (¬ (e1 = 0 ∧ e2 = 0 ∧ a.length = b.length) ∧ ∃ e : Int, e ≠ 0 ∧ Ev (fun k => plait_Product.f k a b) ([], 0, e) ∧ Ev (fun k => pomaderef07_Product.f k a b) ([], 0, e))) := by
  obtain ⟨e1, e2, o1, d1, o2, d2, h⟩ := product_plait a b
  refine ⟨e1, e2, o1, d1, o2, d2, ?_⟩
  have two : Ev (fun k => pomaderef07_two.f k a b) (err2 e1 e2 a b) := by
    unfold err2
    refine Ev.congr (fun k => rfl) (Ev.bind d1 ?_)
    by_cases z1 : e1 = 0
    · rw [if_pos z1]
      refine Ev.congr (fun k => by rw [if_pos z1]) (Ev.bind d2 ?_)
      by_cases z2 : e2 = 0
      · rw [if_pos z2]
        by_cases z3 : (a.length : Int) = (b.length : Int)
        · rw [if_pos z3]; exact Ev.congr (fun k => by rw [if_pos z2, if_pos z3, z2]) (Ev.now _)
        · rw [if_neg z3]; exact Ev.congr (fun k => by rw [if_pos z2, if_neg z3]) (Ev.now _)
      · rw [if_neg z2]; exact Ev.congr (fun k => by rw [if_neg z2]) (Ev.now _)
    · rw [if_neg z1]; exact Ev.congr (fun k => by rw [if_neg z1]) (Ev.now _)
  rcases h with ⟨z1, z2, hl, n, g1, g2, h⟩ | ⟨hn, he, h⟩
  · have hlim := g1.lim
    have e0 : err2 e1 e2 a b = 0 := by unfold err2; rw [if_pos z1, if_pos z2, if_pos (by omega)]
    rw [e0] at two
    exact .inl ⟨z1, z2, hl, n, g1, g2, h, Ev.congr (fun k => rfl) (Ev.bind two (Ev.congr (fun k => by rw [if_pos rfl]) (Ev.bind (ref_product (by omega) g1.lm g2.lm) (Ev.now _))))⟩
  · exact .inr ⟨hn, _, he, h, Ev.congr (fun k => rfl) (Ev.bind two (Ev.congr (fun k => by rw [if_neg he]) (Ev.now _)))⟩
end Go.Proofs.Ytjfkompfkgjdaaa.L
end
section
/- Closed curves: the trace of a product, and how many there can be: plain. -/
namespace Go.Proofs.Ytjfkompfkgjdaaa.G
/-! ### closed: every point with the one across -/
def ext (n : Nat) (d : Nat → Nat) (z : Nat) : Nat := if z < 2 * n then d z else z
theorem ext_lo {n : Nat} {d : Nat → Nat} {z : Nat} (h : z < 2 * n) : ext n d z = d z := by unfold ext; rw [if_pos h]
theorem ext_off {n : Nat} {d : Nat → Nat} {z : Nat} (h : 2 * n ≤ z) : ext n d z = z := by unfold ext; rw [if_neg (by omega)]
theorem ext_inv {n : Nat} {d : Nat → Nat} (hd : Mat n d) : Inv2 (ext n d) := by
  intro z
  by_cases c : z < 2 * n
  · rw [ext_lo c, ext_lo (hd z c).1, (hd z c).2.2]
  · rw [ext_off (z := z) (by omega), ext_off (by omega)]
def acr (n : Nat) : List (Nat × Nat) := prs (fun i => i) (fun i => n + i) n
theorem acr_ok {n : Nat} {d : Nat → Nat} (hd : Mat n d) : OK (ext n d) (acr n) :=
  prs_ok n (fun i j _ _ => by omega) (fun i hi => ⟨by rw [ext_lo (by omega)]; exact (hd i (by omega)).2.1, by rw [ext_lo (by omega)]; exact (hd _ (by omega)).2.1⟩)
/-- how many closed curves -/
def cls (n : Nat) (d : Nat → Nat) : Nat := (glue (acr n) (ext n d)).2
theorem acr_tau {n : Nat} {d : Nat → Nat} (hd : Mat n d) {z : Nat} (hz : z < 2 * n) : tau (acr n) z = idf n z := by
  unfold idf
  by_cases c : z < n
  · rw [if_pos c]
    have := (tau_prs n (acr_ok hd) z c).1
    rw [Nat.add_comm z n]; exact this
  · rw [if_neg c]
    have : tau (acr n) (n + (z - n)) = z - n := (tau_prs n (acr_ok hd) (z - n) (by omega)).2
    rwa [show n + (z - n) = z by omega] at this
/-- the steps of the walk, on the points -/
theorem conn_ext {n : Nat} {d : Nat → Nat} (hd : Mat n d) {x y : Nat} (hx : x < 2 * n) : Conn (ext n d) (tau (acr n)) x y ↔ Conn d (idf n) x y := by
  have hi := @idf_mat n
  constructor
  · intro h
    have : Conn d (idf n) x y ∧ y < 2 * n := by
      induction h with
      | refl => exact ⟨.refl, hx⟩
      | s y _ ih => rw [ext_lo ih.2]; exact ⟨.s _ ih.1, (hd y ih.2).1⟩
      | t y _ ih => rw [acr_tau hd ih.2]; exact ⟨.t _ ih.1, (hi y ih.2).1⟩
    exact this.1
  · intro h
    have : Conn (ext n d) (tau (acr n)) x y ∧ y < 2 * n := by
      induction h with
      | refl => exact ⟨.refl, hx⟩
      | s y _ ih => have := Conn.s _ ih.1; rw [ext_lo ih.2] at this; exact ⟨this, (hd y ih.2).1⟩
      | t y _ ih => have := Conn.t _ ih.1; rw [acr_tau hd ih.2] at this; exact ⟨this, (hi y ih.2).1⟩
    exact this.1
theorem conn_lt {n : Nat} {d e : Nat → Nat} (hd : Mat n d) (he : Mat n e) {x y : Nat} (hx : x < 2 * n) (h : Conn d e x y) : y < 2 * n := by
  induction h with
  | refl => exact hx
  | s y _ ih => exact (hd y ih).1
  | t y _ ih => exact (he y ih).1
theorem conn_symm {n : Nat} {d e : Nat → Nat} (hd : Mat n d) (he : Mat n e) {x y : Nat} (hx : x < 2 * n) (h : Conn d e x y) : Conn d e y x := by
  induction h with
  | refl => exact .refl
  | s y h ih =>
    have := conn_lt hd he hx h
    have s := Conn.s (σ := d) (τ := e) (x := d y) _ .refl
    rw [(hd y this).2.2] at s
    exact s.trans ih
  | t y h ih =>
    have := conn_lt hd he hx h
    have s := Conn.t (σ := d) (τ := e) (x := e y) _ .refl
    rw [(he y this).2.2] at s
    exact s.trans ih
theorem cntP_add (P : Nat → Prop) (m k : Nat) : cntP P (m + k) = cntP P m + cntP (fun i => P (m + i)) k := by
  induction k with
  | zero => rfl
  | succ k ih => rw [← Nat.add_assoc]; simp only [cntP]; rw [ih]; omega
/-- the program's count: the first points of the curves -/
theorem cls_fst {n : Nat} {d : Nat → Nat} (hd : Mat n d) : cls n d = cntP (Fst (fun z => z < 2 * n) d (idf n)) (2 * n) := by
  have hi := @idf_mat n
  unfold cls acr
  rw [glue_count _ _ _ _ (ext_inv hd) (acr_ok hd), show 2 * n = n + n by omega, cntP_add]
  have hz : cntP (fun i => Fst (fun z => z < 2 * n) d (idf n) (n + i)) n = 0 := cntP_none n (fun i hik h => by
    have := h.2 i (by omega) (by omega)
    have c := Conn.t (σ := d) (τ := idf n) (x := i) _ .refl
    rw [idf_lo hik] at c
    exact this c)
  rw [show n + n = 2 * n by omega] at *
  rw [hz, Nat.add_zero]
  refine cntP_congr n (fun j hj => ?_)
  constructor
  · intro m
    refine ⟨by omega, fun i hij hi2 c => ?_⟩
    have c' := conn_symm hd hi (by omega) c
    obtain ⟨i', a, b, e⟩ := m i (show Conn (ext n d) (tau (acr n)) j i from (conn_ext hd (by omega)).2 c')
    have e : i = i' ∨ i = n + i' := e
    omega
  · intro ⟨_, hf⟩ z hz
    have c : Conn d (idf n) j z := (conn_ext hd (by omega)).1 hz
    have hz2 := conn_lt hd hi (by omega) c
    have le : ∀ z, Conn d (idf n) j z → z < 2 * n → j ≤ z := fun z c hz => Classical.byContradiction fun h => hf z (by omega) hz (conn_symm hd hi (by omega) c)
    by_cases q : z < n
    · exact ⟨z, le z c hz2, q, .inl rfl⟩
    · have c2 := Conn.t _ c
      have e : idf n z = z - n := by unfold idf; rw [if_neg q]
      rw [e] at c2
      exact ⟨z - n, le _ c2 (by omega), by omega, .inr (show z = n + (z - n) by omega)⟩
theorem cls_rng {n : Nat} {d : Nat → Nat} (hn : 0 < n) (hd : Mat n d) : 1 ≤ cls n d ∧ cls n d ≤ n := by
  constructor
  · rw [cls_fst hd]
    have e : 2 * n = (2 * n - 1) + 1 := by omega
    have pos : ∀ (P : Nat → Prop) k, P 0 → 1 ≤ cntP P (k + 1) := by
      intro P k h
      induction k with
      | zero => simp only [cntP]; rw [if_pos h]; omega
      | succ k ih => simp only [cntP] at ih ⊢; omega
    rw [e]
    exact pos _ _ ⟨by omega, fun j hj => by omega⟩
  · unfold cls acr
    rw [glue_count _ _ _ _ (ext_inv hd) (acr_ok hd)]
    exact cntP_le _ _
/-- the trace: the curves of a product closed, with its loops, are those of both in a ring -/
theorem trace {n : Nat} {a b : Nat → Nat} (ha : Mat n a) (hb : Mat n b) : cls n (prod n a b) + lops n a b = cls n (prod n b a) + lops n b a := by
  have ring : ∀ {a b : Nat → Nat}, Mat n a → Mat n b → cls n (prod n a b) + lops n a b = (glue (mids n ++ prs (fun i => i) (fun i => 3 * n + i) n) (jn n a b)).2 := by
    intro a b ha hb
    have hp := prod_mat ha hb
    have hF : ∀ u v, u < 2 * n → v < 2 * n → emb n u = emb n v → u = v := fun u v _ _ e => by have := congrArg (une n) e; rwa [une_emb, une_emb] at this
    have h : Emb (2 * n) (emb n) (ext n (prod n a b)) (glue (mids n) (jn n a b)).1 := fun z hz => by
      rw [ext_lo hz]
      exact ⟨(hp z hz).1, (prod_emb ha hb hz).1.symm⟩
    have g := (glue_emb hF (acr n) h (fun p hp => by obtain ⟨i, hi, rfl⟩ := prs_mem hp; dsimp only; omega)).2
    have e : (acr n).map (fun p => (emb n p.1, emb n p.2)) = prs (fun i => i) (fun i => 3 * n + i) n := by
      unfold acr
      rw [prs_map]
      exact prs_congr n (fun i hi => by unfold emb; rw [if_pos hi, if_neg (by omega)]; omega)
    rw [e] at g
    rw [glue_app]
    show _ = _ + (glue (mids n) (jn n a b)).2
    rw [g]
    rfl
  rw [ring ha hb, ring hb ha]
  let S : Nat → Nat := fun z => if z < 2 * n then 2 * n + z else z - 2 * n
  have hS : ∀ u v, u < 4 * n → v < 4 * n → S u = S v → u = v := by
    intro u v hu hv e
    simp only [S] at e
    split at e <;> split at e <;> omega
  have eS : Emb (4 * n) S (jn n b a) (jn n a b) := fun z hz => ⟨jn_lt hb ha hz, by
    rcases @jn_cases n z with h | ⟨y, h, rfl⟩ | h
    · have := (hb z h).1
      simp only [S]; rw [jn_lo h, if_pos h, if_pos this, jn_hi h]
    · have := (ha y h).1
      simp only [S]; rw [jn_hi h, if_neg (by omega), if_neg (by omega), Nat.add_sub_cancel_left, Nat.add_sub_cancel_left, jn_lo h]
    · omega⟩
  have g := (glue_emb hS (mids n ++ prs (fun i => i) (fun i => 3 * n + i) n) eS (fun p hp => by
    rcases List.mem_append.1 hp with hp | hp
    · obtain ⟨i, hi, rfl⟩ := prs_mem hp; simp only [up, dn]; omega
    · obtain ⟨i, hi, rfl⟩ := prs_mem hp; dsimp only; omega)).2
  rw [← g, List.map_append]
  have e1 : (mids n).map (fun p => (S p.1, S p.2)) = prs (fun i => 3 * n + i) (fun i => i) n := by
    unfold mids
    rw [prs_map]
    exact prs_congr n (fun i hi => by simp only [S, up, dn]; rw [if_pos (by omega), if_neg (by omega)]; omega)
  have e2 : (prs (fun i => i) (fun i => 3 * n + i) n).map (fun p => (S p.1, S p.2)) = prs (dn n) (up n) n := by
    rw [prs_map]
    exact prs_congr n (fun i hi => by simp only [S, up, dn]; rw [if_pos (by omega), if_neg (by omega)]; omega)
  rw [e1, e2]
  have hi := jn_inv ha hb
  have okM := mids_ok ha hb
  have okO : OK (jn n a b) (prs (fun i => i) (fun i => 3 * n + i) n) := prs_ok n (fun i j _ _ => by omega) (fun i hi => ⟨(jn_alive ha hb).2 (by omega), (jn_alive ha hb).2 (by omega)⟩)
  have okMO : OK (jn n a b) (mids n ++ prs (fun i => i) (fun i => 3 * n + i) n) := okM.app okO (fun z h1 h2 => by
    have := mids_pts.1 h1
    obtain ⟨i, h, e⟩ := (pts_prs _ _ _ _).1 h2
    omega)
  obtain ⟨same, okOM⟩ := glue_perm (List.perm_append_comm (l₁ := mids n) (l₂ := prs (fun i => i) (fun i => 3 * n + i) n)) _ hi okMO
  rw [same, glue_app, glue_app]
  have f1 := prs_flip n _ hi okO
  rw [f1]
  have ok2 := glue_ok _ _ _ hi okOM
  have f2 := prs_flip n _ (glue_inv _ _ hi okO) ok2
  rw [f2]
  rfl
/-! ### halves -/
theorem cntP_not (P : Nat → Prop) (N : Nat) : cntP P N + cntP (fun i => ¬ P i) N = N := by
  induction N with
  | zero => rfl
  | succ N ih =>
    simp only [cntP]
    by_cases c : P N
    · rw [if_pos c, if_neg (fun h => h c)]; omega
    · rw [if_neg c, if_pos c]; omega
theorem cntP_mono {P Q : Nat → Prop} (N : Nat) (h : ∀ i, i < N → P i → Q i) : cntP P N ≤ cntP Q N := by
  induction N with
  | zero => exact Nat.le_refl _
  | succ N ih =>
    have := ih (fun i hi => h i (by omega))
    simp only [cntP]
    by_cases c : P N
    · rw [if_pos c, if_pos (h N (by omega) c)]; omega
    · rw [if_neg c]; omega
theorem cntP_eq {P Q : Nat → Prop} (N : Nat) (h : ∀ i, i < N → P i → Q i) (he : cntP P N = cntP Q N) : ∀ i, i < N → Q i → P i := by
  induction N with
  | zero => intro i hi; omega
  | succ N ih =>
    intro i hi hq
    have m := cntP_mono N (fun i hi => h i (by omega))
    simp only [cntP] at he
    by_cases c : P N
    · rw [if_pos c, if_pos (h N (by omega) c)] at he
      by_cases e : i = N
      · rw [e]; exact c
      · exact ih (fun i hi => h i (by omega)) (by omega) i (by omega) hq
    · by_cases d : Q N
      · rw [if_neg c, if_pos d] at he; omega
      · rw [if_neg c, if_neg d] at he
        by_cases e : i = N
        · subst e; exact absurd hq d
        · exact ih (fun i hi => h i (by omega)) (by omega) i (by omega) hq
open Classical in
theorem cntP_list (P : Nat → Prop) (N : Nat) : cntP P N = (List.range N).countP (fun i => decide (P i)) := by
  induction N with
  | zero => rfl
  | succ N ih =>
    rw [List.range_succ, List.countP_append, ← ih]
    simp only [cntP]
    by_cases c : P N <;> simp [c]
theorem cntP_perm {N : Nat} {A : Nat → Nat} (hA : PairN N A) (P : Nat → Prop) : cntP (fun i => P (A i)) N = cntP P N := by
  classical
  rw [cntP_list, cntP_list]
  have nd : ((List.range N).map A).Nodup := by
    unfold List.Nodup
    rw [List.pairwise_map]
    refine List.Pairwise.imp_of_mem (fun {a b} ha hb hne e => ?_) List.nodup_range
    have h1 := hA a (List.mem_range.1 ha)
    have h2 := hA b (List.mem_range.1 hb)
    exact hne (by rw [← h1.2.2, e, h2.2.2])
  have pm : ((List.range N).map A).Perm (List.range N) := (List.perm_ext_iff_of_nodup nd List.nodup_range).2 (fun x => by
    rw [List.mem_map, List.mem_range]
    constructor
    · rintro ⟨y, hy, rfl⟩; exact (hA y (List.mem_range.1 hy)).1
    · intro hx; exact ⟨A x, List.mem_range.2 (hA x hx).1, (hA x hx).2.2⟩)
  have := pm.countP_eq (fun i => decide (P i))
  rw [List.countP_map] at this
  rw [← this]
  congr 1
theorem pairs_of {N : Nat} {A : Nat → Nat} (hA : PairN N A) : Pairs (fun z => z < N) A := ⟨fun m h => (hA m h).1, fun m h => (hA m h).2.1, fun m h => (hA m h).2.2⟩
theorem connN_lt {N : Nat} {d e : Nat → Nat} (hd : PairN N d) (he : PairN N e) {x y : Nat} (hx : x < N) (h : Conn d e x y) : y < N := by
  induction h with
  | refl => exact hx
  | s y _ ih => exact (hd y ih).1
  | t y _ ih => exact (he y ih).1
theorem connN_symm {N : Nat} {d e : Nat → Nat} (hd : PairN N d) (he : PairN N e) {x y : Nat} (hx : x < N) (h : Conn d e x y) : Conn d e y x := by
  induction h with
  | refl => exact .refl
  | s y h ih =>
    have := connN_lt hd he hx h
    have s := Conn.s (σ := d) (τ := e) (x := d y) _ .refl
    rw [(hd y this).2.2] at s
    exact s.trans ih
  | t y h ih =>
    have := connN_lt hd he hx h
    have s := Conn.t (σ := d) (τ := e) (x := e y) _ .refl
    rw [(he y this).2.2] at s
    exact s.trans ih
theorem fst_not {N : Nat} {A B : Nat → Nat} (hA : PairN N A) {i : Nat} (hi : i < N) (h : Fst (fun z => z < N) A B i) : ¬ Fst (fun z => z < N) A B (A i) := by
  intro k
  have h1 := hA i hi
  by_cases c : i < A i
  · exact k.2 i c hi (.s _ .refl)
  · have s := Conn.s (σ := A) (τ := B) (x := A i) _ .refl
    rw [h1.2.2] at s
    exact h.2 (A i) (by omega) h1.1 s
theorem half {N : Nat} {A B : Nat → Nat} (hA : PairN N A) (hB : PairN N B) : 2 * cntP (Fst (fun z => z < N) A B) N ≤ N ∧ (2 * cntP (Fst (fun z => z < N) A B) N = N ↔ ∀ i, i < N → A i = B i) := by
  have e1 := cntP_perm hA (Fst (fun z => z < N) A B)
  have e2 := cntP_not (Fst (fun z => z < N) A B) N
  have m : ∀ i, i < N → Fst (fun z => z < N) A B (A i) → ¬ Fst (fun z => z < N) A B i := fun i hi h => by
    have := fst_not hA (hA i hi).1 h
    rwa [(hA i hi).2.2] at this
  have le := cntP_mono (P := fun i => Fst (fun z => z < N) A B (A i)) (Q := fun i => ¬ Fst (fun z => z < N) A B i) N m
  refine ⟨by omega, fun he => ?_, fun he => ?_⟩
  · have all := cntP_eq N m (by omega)
    have first : ∀ i, i < N → Fst (fun z => z < N) A B i → A i = B i := by
      intro i hi h
      have nb : ¬ Fst (fun z => z < N) A B (B i) := fun k => fst_not hB hi (fst_swap.1 h) (fst_swap.1 k)
      have k := all (B i) (hB i hi).1 nb
      have c : Conn A B i (A (B i)) := .s _ (.t _ .refl)
      have hk : A (B i) < N := (hA _ (hB i hi).1).1
      have e : A (B i) = i := by
        refine Classical.byContradiction fun ne => ?_
        by_cases q : i < A (B i)
        · exact k.2 i q hi c
        · exact h.2 (A (B i)) (by omega) hk (connN_symm hA hB hi c)
      rw [← e, (hA _ (hB i hi).1).2.2, e]
    intro j hj
    by_cases c : Fst (fun z => z < N) A B j
    · exact first j hj c
    · have k := all j hj c
      have e := first (A j) (hA j hj).1 k
      rw [(hA j hj).2.2] at e
      have := congrArg B e
      rw [(hB _ (hA j hj).1).2.2] at this
      exact this.symm
  · have two : ∀ x y, x < N → Conn A B x y → y = x ∨ y = A x := by
      intro x y hx h
      induction h with
      | refl => exact .inl rfl
      | s y _ ih =>
        rcases ih with e | e
        · exact .inr (by rw [e])
        · exact .inl (by rw [e, (hA x hx).2.2])
      | t y _ ih =>
        rcases ih with e | e
        · exact .inr (by rw [e, he x hx])
        · exact .inl (by rw [e, ← he _ (hA x hx).1, (hA x hx).2.2])
    have back : ∀ i, i < N → ¬ Fst (fun z => z < N) A B i → Fst (fun z => z < N) A B (A i) := by
      intro j hj h
      have hx : ∃ k, k < j ∧ k < N ∧ Conn A B k j := Classical.byContradiction fun e => h ⟨hj, fun k a b c => e ⟨k, a, b, c⟩⟩
      obtain ⟨k, kj, kN, c⟩ := hx
      rcases two k j kN c with e | e
      · omega
      · refine ⟨(hA j hj).1, fun i a b c2 => ?_⟩
        have ej : A j = k := by rw [e, (hA k kN).2.2]
        rw [ej] at a c2
        rcases two i k b c2 with q | q
        · omega
        · have := (hA i b).2.2
          rw [← q, ← e] at this
          omega
    have ge := cntP_mono (P := fun i => ¬ Fst (fun z => z < N) A B i) (Q := fun i => Fst (fun z => z < N) A B (A i)) N back
    omega
end Go.Proofs.Ytjfkompfkgjdaaa.G
end
section
/- Through strands, and diagrams turned: plain. -/
namespace Go.Proofs.Ytjfkompfkgjdaaa.G
/-! ### through strands -/
noncomputable def thr (n : Nat) (d : Nat → Nat) : Nat := cntP (fun i => n ≤ d i) n
theorem cntP_low {n : Nat} (Q : Nat → Prop) : cntP (fun z => z < n ∧ Q z) (2 * n) = cntP Q n := by
  rw [show 2 * n = n + n by omega, cntP_add, cntP_none (P := fun i => n + i < n ∧ Q (n + i)) n (fun i _ h => by omega), Nat.add_zero]
  exact cntP_congr n (fun i hi => ⟨fun h => h.2, fun h => ⟨hi, h⟩⟩)
theorem cntP_high {n : Nat} (Q : Nat → Prop) : cntP (fun z => n ≤ z ∧ Q z) (2 * n) = cntP (fun i => Q (n + i)) n := by
  rw [show 2 * n = n + n by omega, cntP_add, cntP_none (P := fun i => n ≤ i ∧ Q i) n (fun i _ h => by omega), Nat.zero_add]
  exact cntP_congr n (fun i hi => ⟨fun h => h.2, fun h => ⟨by omega, h⟩⟩)
theorem thr_low {n : Nat} {d : Nat → Nat} (hd : Mat n d) : thr n d = cntP (fun i => d (n + i) < n) n := by
  unfold thr
  rw [← cntP_low, ← cntP_high (fun z => d z < n), ← cntP_perm (N := 2 * n) hd (fun z => z < n ∧ n ≤ d z)]
  refine cntP_congr _ (fun z hz => ?_)
  have := (hd z hz).2.2
  rw [this]
  exact ⟨fun h => ⟨h.2, h.1⟩, fun h => ⟨h.2, h.1⟩⟩
theorem thr_prod {n : Nat} {a b : Nat → Nat} (ha : Mat n a) (hb : Mat n b) : thr n (prod n a b) ≤ thr n a ∧ thr n (prod n a b) ≤ thr n b := by
  constructor
  · refine cntP_mono n (fun i hi h => ?_)
    refine Classical.byContradiction fun c => ?_
    have e : jn n a b i = a i := jn_lo (by omega)
    have p := Path.out (σ := jn n a b) (l := mids n) i (by rw [e]; intro q; have := mids_pts.1 q; omega)
    rw [e] at p
    have := prod_path ha hb (p := i) (q := a i) (by omega) (by unfold emb; rw [if_pos hi]; exact p)
    unfold une at this
    rw [if_pos (by omega)] at this
    omega
  · rw [thr_low (prod_mat ha hb), thr_low hb]
    refine cntP_mono n (fun i hi h => ?_)
    refine Classical.byContradiction fun c => ?_
    have hlt := (hb (n + i) (by omega)).1
    have e : jn n a b (2 * n + (n + i)) = 2 * n + b (n + i) := jn_hi (by omega)
    have p := Path.out (σ := jn n a b) (l := mids n) (2 * n + (n + i)) (by rw [e]; intro q; have := mids_pts.1 q; omega)
    rw [e] at p
    have := prod_path ha hb (p := n + i) (q := 2 * n + b (n + i)) (by omega) (by unfold emb; rw [if_neg (by omega), show n + i + 2 * n = 2 * n + (n + i) by omega]; exact p)
    unfold une at this
    rw [if_neg (by omega)] at this
    omega
theorem cntP_split (P Q : Nat → Prop) (N : Nat) : cntP P N = cntP (fun i => P i ∧ Q i) N + cntP (fun i => P i ∧ ¬ Q i) N := by
  induction N with
  | zero => rfl
  | succ N ih =>
    simp only [cntP]
    by_cases p : P N <;> by_cases q : Q N
    · rw [if_pos p, if_pos ⟨p, q⟩, if_neg (fun h => h.2 q)]; omega
    · rw [if_pos p, if_neg (fun h => q h.2), if_pos ⟨p, q⟩]; omega
    · rw [if_neg p, if_neg (fun h => p h.1), if_neg (fun h => p h.1)]; omega
    · rw [if_neg p, if_neg (fun h => p h.1), if_neg (fun h => p h.1)]; omega
theorem thr_even {n : Nat} {d : Nat → Nat} (hd : Mat n d) : ∃ k, thr n d + 2 * k = n := by
  have h1 := cntP_not (fun i => n ≤ d i) n
  have h2 := cntP_low (n := n) (fun i => ¬ n ≤ d i)
  have h3 := cntP_split (fun z => z < n ∧ ¬ n ≤ d z) (fun z => z < d z) (2 * n)
  have h4 : cntP (fun i => (i < n ∧ ¬ n ≤ d i) ∧ ¬ i < d i) (2 * n) = cntP (fun i => (i < n ∧ ¬ n ≤ d i) ∧ i < d i) (2 * n) := by
    rw [← cntP_perm (N := 2 * n) hd (fun i => (i < n ∧ ¬ n ≤ d i) ∧ i < d i)]
    refine cntP_congr _ (fun z hz => ?_)
    have := (hd z hz).2
    rw [this.2]
    omega
  refine ⟨cntP (fun i => (i < n ∧ ¬ n ≤ d i) ∧ i < d i) (2 * n), ?_⟩
  unfold thr
  omega
/-! ### turned -/
def dnf (n : Nat) (d : Nat → Nat) (z : Nat) : Nat := idf n (d (idf n z))
def lf (n z : Nat) : Nat := if z < n then n - 1 - z else 3 * n - 1 - z
def lff (n : Nat) (d : Nat → Nat) (z : Nat) : Nat := lf n (d (lf n z))
theorem lf_mat {n z : Nat} (h : z < 2 * n) : lf n z < 2 * n ∧ lf n (lf n z) = z := by
  unfold lf
  by_cases c : z < n
  · rw [if_pos c, if_pos (by omega)]; omega
  · rw [if_neg c, if_neg (by omega)]; omega
theorem dnf_mat {n : Nat} {d : Nat → Nat} (hd : Mat n d) : Mat n (dnf n d) := by
  intro z hz
  have h1 := @idf_mat n z hz
  have h2 := hd _ h1.1
  have h3 := @idf_mat n _ h2.1
  unfold dnf
  refine ⟨h3.1, fun e => h2.2.1 ?_, ?_⟩
  · have := congrArg (idf n) e
    rwa [h3.2.2] at this
  · rw [h3.2.2, h2.2.2, h1.2.2]
theorem dnf_dnf {n : Nat} {d : Nat → Nat} (hd : Mat n d) {z : Nat} (hz : z < 2 * n) : dnf n (dnf n d) z = d z := by
  have h1 := @idf_mat n z hz
  have h2 := @idf_mat n _ (hd z hz).1
  unfold dnf
  rw [h1.2.2, h2.2.2]
theorem lff_lff {n : Nat} {d : Nat → Nat} (hd : Mat n d) {z : Nat} (hz : z < 2 * n) : lff n (lff n d) z = d z := by
  unfold lff
  rw [(lf_mat hz).2, (lf_mat (hd z hz).1).2]
theorem lff_mat {n : Nat} {d : Nat → Nat} (hd : Mat n d) : Mat n (lff n d) := by
  intro z hz
  have h1 := lf_mat hz
  have h2 := hd _ h1.1
  have h3 := lf_mat h2.1
  unfold lff
  refine ⟨h3.1, fun e => h2.2.1 ?_, ?_⟩
  · have := congrArg (lf n) e
    rwa [h3.2] at this
  · rw [h3.2, h2.2.2, h1.2]
theorem idf_bo {n z : Nat} (h : z < 2 * n) : bo n (idf n z) = 2 * n - 1 - bo n z := by
  unfold bo idf
  by_cases c : z < n
  · rw [if_pos c, if_neg (by omega), if_pos c]; omega
  · rw [if_neg c, if_pos (by omega), if_neg c]; omega
theorem bo_lt2 {n i : Nat} (h : i < 2 * n) : bo n i < 2 * n := by unfold bo; split <;> omega
/-- turned upside down, no pairs cross either -/
theorem dnf_nc {n : Nat} {d : Nat → Nat} (hd : Mat n d) (h : NCf n d) : NCf n (dnf n d) := by
  intro i k hi hk c
  have i1 := @idf_mat n i hi
  have k1 := @idf_mat n k hk
  have i2 := hd _ i1.1
  have k2 := hd _ k1.1
  unfold dnf at c
  rw [idf_bo i2.1, idf_bo k2.1] at c
  have e1 := idf_bo (n := n) i1.1
  have e2 := idf_bo (n := n) k1.1
  rw [i1.2.2] at e1
  rw [k1.2.2] at e2
  rw [e1, e2] at c
  have b1 := bo_lt2 i2.1
  have b2 := bo_lt2 k2.1
  have b3 := bo_lt2 i1.1
  have b4 := bo_lt2 k1.1
  have := h (d (idf n k)) (d (idf n i)) k2.1 i2.1
  rw [k2.2.2, i2.2.2] at this
  omega
theorem lf_bo {n z : Nat} (h : z < 2 * n) : bo n (lf n z) = if z < n then n - 1 - bo n z else 3 * n - 1 - bo n z := by
  unfold bo lf
  by_cases c : z < n
  · rw [if_pos c, if_pos (by omega), if_pos c, if_pos c]
  · rw [if_neg c, if_neg (by omega), if_neg c, if_neg c]
theorem turn_prod {n : Nat} {a b : Nat → Nat} (ha : Mat n a) (hb : Mat n b) : (∀ p, p < 2 * n → prod n (dnf n b) (dnf n a) p = dnf n (prod n a b) p) ∧ lops n (dnf n b) (dnf n a) = lops n a b := by
  have ma := dnf_mat ha
  have mb := dnf_mat hb
  have hp := prod_mat ha hb
  have im := @idf_mat n
  let F : Nat → Nat := fun z => if z < 2 * n then 2 * n + idf n z else idf n (z - 2 * n)
  have hF : ∀ u v, u < 4 * n → v < 4 * n → F u = F v → u = v := by
    intro u v hu hv e
    simp only [F] at e
    by_cases c1 : u < 2 * n <;> by_cases c2 : v < 2 * n
    · rw [if_pos c1, if_pos c2] at e
      have := congrArg (idf n) (Nat.add_left_cancel e)
      rwa [(im u c1).2.2, (im v c2).2.2] at this
    · rw [if_pos c1, if_neg c2] at e; have := (im (v - 2 * n) (by omega)).1; omega
    · rw [if_neg c1, if_pos c2] at e; have := (im (u - 2 * n) (by omega)).1; omega
    · rw [if_neg c1, if_neg c2] at e
      have := congrArg (idf n) e
      rw [(im _ (by omega : u - 2 * n < 2 * n)).2.2, (im _ (by omega : v - 2 * n < 2 * n)).2.2] at this
      omega
  have eF : Emb (4 * n) F (jn n (dnf n b) (dnf n a)) (jn n a b) := fun z hz => ⟨jn_lt mb ma hz, by
    rcases @jn_cases n z with h | ⟨y, h, rfl⟩ | h
    · have h1 := im z h
      have h2 := hb _ h1.1
      have h3 := (mb z h).1
      simp only [F]
      rw [jn_lo h, if_pos h, if_pos h3, jn_hi h1.1]
      unfold dnf
      rw [(im _ h2.1).2.2]
    · have h1 := im y h
      have h2 := ha _ h1.1
      have h3 := (ma y h).1
      simp only [F]
      rw [jn_hi h, if_neg (by omega), if_neg (by omega), Nat.add_sub_cancel_left, Nat.add_sub_cancel_left, jn_lo h1.1]
      unfold dnf
      rw [(im _ h2.1).2.2]
    · omega⟩
  have g1 := fun p hp => glue_sub mb ma hF eF (p := p) hp
  have g2 := glue_sub2 hF eF
  have e : prs (fun i => F (n + i)) (fun i => F (2 * n + i)) n = prs (dn n) (up n) n := prs_congr n (fun i hi => by
    simp only [F, up, dn]
    rw [if_pos (by omega), if_neg (by omega), idf_hi, Nat.add_sub_cancel_left, idf_lo hi]
    exact ⟨rfl, rfl⟩)
  have fl := prs_flip n _ (jn_inv ha hb) (mids_ok ha hb)
  rw [e, fl] at g2
  have Fe : ∀ p, p < 2 * n → F (emb n p) = emb n (idf n p) := fun p hp => by
    simp only [F, emb]
    by_cases c : p < n
    · rw [if_pos c, if_pos (by omega), idf_lo c, if_neg (by omega)]; omega
    · obtain ⟨m, rfl⟩ : ∃ m, p = n + m := ⟨p - n, by omega⟩
      rw [if_neg c, if_neg (by omega), idf_hi, if_pos (by omega), show n + m + 2 * n - 2 * n = n + m by omega, idf_hi]
  refine ⟨fun p hp2 => ?_, g2.symm⟩
  have g := g1 p hp2
  rw [e, fl, Fe p hp2, Fe _ (prod_mat mb ma p hp2).1] at g
  have h1 := im p hp2
  have h2 := prod_emb ha hb h1.1
  have g' : emb n (prod n a b (idf n p)) = emb n (idf n (prod n (dnf n b) (dnf n a) p)) := h2.1.trans g
  have := congrArg (une n) g'
  rw [une_emb, une_emb] at this
  show prod n (dnf n b) (dnf n a) p = idf n (prod n a b (idf n p))
  rw [this, (im _ (prod_mat mb ma p hp2).1).2.2]
end Go.Proofs.Ytjfkompfkgjdaaa.G
end
section
/- What of a diagram stays in its products, and that brackets determine a diagram: plain. -/
namespace Go.Proofs.Ytjfkompfkgjdaaa.G
theorem upper_stay {n : Nat} {a b : Nat → Nat} (ha : Mat n a) (hb : Mat n b) {i : Nat} (hi : i < n) (c : a i < n) : prod n a b i = a i := by
  have e : jn n a b i = a i := jn_lo (by omega)
  have p := Path.out (σ := jn n a b) (l := mids n) i (by rw [e]; intro q; have := mids_pts.1 q; omega)
  rw [e] at p
  have := prod_path ha hb (p := i) (q := a i) (by omega) (by unfold emb; rw [if_pos hi]; exact p)
  unfold une at this
  rw [if_pos (by omega)] at this
  exact this.symm
theorem lower_stay {n : Nat} {a b : Nat → Nat} (ha : Mat n a) (hb : Mat n b) {i : Nat} (hi : i < n) (c : n ≤ b (n + i)) : prod n a b (n + i) = b (n + i) := by
  have hlt := (hb (n + i) (by omega)).1
  have e : jn n a b (2 * n + (n + i)) = 2 * n + b (n + i) := jn_hi (by omega)
  have p := Path.out (σ := jn n a b) (l := mids n) (2 * n + (n + i)) (by rw [e]; intro q; have := mids_pts.1 q; omega)
  rw [e] at p
  have := prod_path ha hb (p := n + i) (q := 2 * n + b (n + i)) (by omega) (by unfold emb; rw [if_neg (by omega), show n + i + 2 * n = 2 * n + (n + i) by omega]; exact p)
  unfold une at this
  rw [if_neg (by omega)] at this
  omega
/-- where a power has as many through strands as the one before, its sides are the same -/
theorem sides_stay {n : Nat} {a d p : Nat → Nat} (ha : Mat n a) (hd : Mat n d) (hp : Mat n p) (e1 : ∀ z, z < 2 * n → p z = prod n a d z) (e2 : ∀ z, z < 2 * n → p z = prod n d a z) (ht : thr n p = thr n a) :
    (∀ i, i < n → (a i < n → p i = a i) ∧ (n ≤ a i → n ≤ p i)) ∧ (∀ i, i < n → (n ≤ a (n + i) → p (n + i) = a (n + i)) ∧ (a (n + i) < n → p (n + i) < n)) := by
  have up : ∀ i, i < n → a i < n → p i = a i := fun i hi c => by rw [e1 i (by omega)]; exact upper_stay ha hd hi c
  have lo : ∀ i, i < n → n ≤ a (n + i) → p (n + i) = a (n + i) := fun i hi c => by rw [e2 (n + i) (by omega)]; exact lower_stay hd ha hi c
  refine ⟨fun i hi => ⟨up i hi, ?_⟩, fun i hi => ⟨lo i hi, ?_⟩⟩
  · exact cntP_eq (P := fun i => n ≤ p i) (Q := fun i => n ≤ a i) n (fun i hi c => Classical.byContradiction fun q => by
      have := up i hi (by omega); omega) ht i hi
  · rw [thr_low hp, thr_low ha] at ht
    exact cntP_eq (P := fun i => p (n + i) < n) (Q := fun i => a (n + i) < n) n (fun i hi c => Classical.byContradiction fun q => by
      have := lo i hi (by omega); omega) ht i hi
/-- the brackets tell which point each closing one closes -/
theorem close_det {N : Nat} {D E : Nat → Nat} (hD : PairN N D) (hE : PairN N E) (nD : NCD N D) (nE : NCD N E) (h : ∀ x, x < N → (D x < x ↔ E x < x)) (d : Nat) :
    ∀ (x : Nat) (st : List Nat), x + d = N → Stay N D x st → Stay N E x st → ∀ y, x ≤ y → y < N → D y < y → D y = E y := by
  induction d with
  | zero => intro x st hx _ _ y h1 h2; omega
  | succ d ih =>
    intro x st hx s1 s2 y h1 h2 hy
    have hh := h x (by omega)
    rcases open_step hD nD (by omega : x < N) s1 with ⟨c, st', e, g⟩ | ⟨c, _, g⟩
    · rcases open_step hE nE (by omega : x < N) s2 with ⟨c', st2, e', g'⟩ | ⟨c', _, g'⟩
      · rw [e] at e'
        injection e' with q1 q2
        subst q2
        by_cases z : y = x
        · rw [z]; exact q1
        · exact ih (x + 1) st' (by omega) g g' y (by omega) h2 hy
      · omega
    · rcases open_step hE nE (by omega : x < N) s2 with ⟨c', st2, e', g'⟩ | ⟨c', _, g'⟩
      · omega
      · by_cases z : y = x
        · subst z; omega
        · exact ih (x + 1) _ (by omega) g g' y (by omega) h2 hy
theorem brackets_det {N : Nat} {D E : Nat → Nat} (hD : PairN N D) (hE : PairN N E) (nD : NCD N D) (nE : NCD N E) (h : ∀ x, x < N → (D x < x ↔ E x < x)) : ∀ x, x < N → D x = E x := by
  have s0 : ∀ D, Stay N D 0 [] := fun D => ⟨trivial, fun z => ⟨fun hz => (by cases hz), fun hz => (by omega)⟩⟩
  have cl := close_det hD hE nD nE h N 0 [] (by omega) (s0 D) (s0 E)
  intro x hx
  have d1 := hD x hx
  by_cases c : D x < x
  · exact cl x (by omega) hx c
  · have q := cl (D x) (by omega) d1.1 (by rw [d1.2.2]; omega)
    rw [d1.2.2] at q
    have := (hE (D x) d1.1).2.2
    rw [← q] at this
    exact this.symm
end Go.Proofs.Ytjfkompfkgjdaaa.G
end
section
/- The powers of a diagram, by the program and by the specification. -/
namespace Go.Proofs.Ytjfkompfkgjdaaa.L
open Go.RowKit Go.Proofs.Ytjfkompfkgjdaaa.PC Go.Proofs.YtjfkompfkgjdaaaW.PrintWords Go.Proofs.YtjfkompfkgjdaaaW.PrintLast Go.Proofs.Ytjfkompfkgjdaaa.G
/-! ### the same numbers -/
theorem rd_ne {a b : List Int} (hl : a.length = b.length) (h : a ≠ b) : ∃ i : Nat, i < a.length ∧ rd a (i : Int) ≠ rd b (i : Int) :=
  Classical.byContradiction fun c => h (list_eq hl (fun z hz => Classical.byContradiction fun q => c ⟨z, hz, q⟩))
theorem eq_l0 {a b : List Int} (ha : a.length ≤ 1000000) (hl : a.length = b.length) (d : Nat) : ∀ i : Nat, i + d = a.length → (∀ z : Nat, z < i → rd a (z : Int) = rd b (z : Int)) →
    Ev (fun k => plait_diagram_int_69.l0 k a b (a.length : Int) (i : Int)) (decide (a = b)) := by
  induction d with
  | zero =>
    intro i hi h
    have e : a = b := list_eq hl (fun z hz => h z (by omega))
    refine Ev.step (f := fun _ => some (decide (a = b))) (fun k => ?_) (Ev.now _)
    simp only [plait_diagram_int_69.l0]
    rw [if_neg (by omega), decide_eq_true e]
  | succ d ih =>
    intro i hi h
    by_cases c : rd a (i : Int) = rd b (i : Int)
    · refine Ev.step (fun k => ?_) (ih (i + 1) (by omega) (fun z hz => by
        by_cases q : z = i
        · subst q; exact c
        · exact h z (by omega)))
      simp only [plait_diagram_int_69.l0]
      rw [if_pos (by omega), if_pos (by omega), if_pos (by omega), if_pos (by omega), if_pos c, pw64 (by omega) (by omega)]
      rfl
    · have e : a ≠ b := fun e => c (by rw [e])
      refine Ev.step (f := fun _ => some (decide (a = b))) (fun k => ?_) (Ev.now _)
      simp only [plait_diagram_int_69.l0]
      rw [if_pos (by omega), if_pos (by omega), if_pos (by omega), if_pos (by omega), if_neg c, decide_eq_false e]
theorem eq_ev {a b : List Int} (ha : a.length ≤ 1000000) (hl : a.length = b.length) : Ev (fun k => plait_diagram_int_69.f k a b) (decide (a = b)) := by
  refine Ev.congr (fun k => ?_) (eq_l0 ha hl a.length 0 (by omega) (fun z hz => by omega))
  unfold plait_diagram_int_69.f
  rw [if_pos (by omega)]
  rfl
theorem refsame_l0 {a b : List Int} (ha : a.length ≤ 1000000) (hl : a.length = b.length) (d : Nat) : ∀ i : Nat, i + d = a.length → (∀ z : Nat, z < i → rd a (z : Int) = rd b (z : Int)) →
    Ev (fun k => pomaderef07_same.l0 k a b (i : Int)) (decide (a = b)) := by
  induction d with
  | zero =>
    intro i hi h
    have e : a = b := list_eq hl (fun z hz => h z (by omega))
    refine Ev.step (f := fun k => pomaderef07_same.j1 k a b (i : Int) false) (fun k => ?_) ?_
    · simp only [pomaderef07_same.l0]
      rw [if_neg (by omega)]
    · refine Ev.step (f := fun _ => some (decide (a = b))) (fun k => ?_) (Ev.now _)
      simp only [pomaderef07_same.j1]
      rw [if_neg (by decide), decide_eq_true e, beq_iff_eq.2 (by omega)]
  | succ d ih =>
    intro i hi h
    refine Ev.step (f := fun k => pomaderef07_same.j1 k a b (i : Int) true) (fun k => ?_) ?_
    · simp only [pomaderef07_same.l0]
      rw [if_pos (by omega), decide_eq_true (by omega)]
    by_cases c : rd a (i : Int) = rd b (i : Int)
    · refine Ev.step (fun k => ?_) (ih (i + 1) (by omega) (fun z hz => by
        by_cases q : z = i
        · subst q; exact c
        · exact h z (by omega)))
      simp only [pomaderef07_same.j1]
      rw [if_pos trivial, if_pos (by omega), if_pos (by omega), if_pos (by omega), if_pos c, pw64 (by omega) (by omega)]
      rfl
    · have e : a ≠ b := fun e => c (by rw [e])
      refine Ev.step (f := fun _ => some (decide (a = b))) (fun k => ?_) (Ev.now _)
      simp only [pomaderef07_same.j1]
      rw [if_pos trivial, if_pos (by omega), if_pos (by omega), if_pos (by omega), if_neg c, decide_eq_false e]
theorem refsame_ev {a b : List Int} (ha : a.length ≤ 1000000) (hl : a.length = b.length) : Ev (fun k => pomaderef07_same.f k a b) (decide (a = b)) :=
  Ev.congr (fun k => rfl) (refsame_l0 ha hl a.length 0 (by omega) (fun z hz => by omega))
/-! ### powers -/
def pwr (n : Nat) (d : List Int) : Nat → List Int
  | 0 => d
  | k + 1 => prodL n (pwr n d k) d
theorem pwr_dia {n : Nat} {d : List Int} (h : Dia n d) : ∀ k, Dia n (pwr n d k)
  | 0 => h
  | k + 1 => dia_prod (pwr_dia h k) h
theorem pwr_comm {n : Nat} {d : List Int} (h : Dia n d) : ∀ k, prodL n (pwr n d k) d = prodL n d (pwr n d k)
  | 0 => rfl
  | k + 1 => by
    show prodL n (prodL n (pwr n d k) d) d = prodL n d (prodL n (pwr n d k) d)
    rw [← (prodL_assoc h.lm (pwr_dia h k).lm h.lm).1, pwr_comm h k]
theorem dia_brk {n : Nat} {a b : List Int} (ha : Dia n a) (hb : Dia n b) (h : ∀ x, x < 2 * n → (Db n a x < x ↔ Db n b x < x)) : a = b := by
  refine lm_eq ha.lm hb.lm (fun z hz => ?_)
  have := brackets_det (db_pair ha.lm) (db_pair hb.lm) ha.nc hb.nc h (L.bo n z) (L.bo_lt hz)
  unfold Db at this
  rw [L.bo_bo hz] at this
  exact L.bo_inj (ha.lm.mat z hz).1 (hb.lm.mat z hz).1 this
theorem pwr_fall {n : Nat} {d : List Int} (h : Dia n d) (k : Nat) : thr n (fn (pwr n d (k + 1))) ≤ thr n (fn (pwr n d k)) ∧ (thr n (fn (pwr n d (k + 1))) = thr n (fn (pwr n d k)) → pwr n d (k + 1) = pwr n d k) := by
  have ha := pwr_dia h k
  have hp := pwr_dia h (k + 1)
  have e1 : ∀ z, z < 2 * n → fn (pwr n d (k + 1)) z = prod n (fn (pwr n d k)) (fn d) z := fun z hz => prodL_fn hz
  have e2 : ∀ z, z < 2 * n → fn (pwr n d (k + 1)) z = prod n (fn d) (fn (pwr n d k)) z := fun z hz => by
    show fn (prodL n (pwr n d k) d) z = _
    rw [pwr_comm h k]; exact prodL_fn hz
  constructor
  · have := (thr_prod ha.lm.mat h.lm.mat).1
    have q : thr n (fn (pwr n d (k + 1))) = thr n (prod n (fn (pwr n d k)) (fn d)) := cntP_congr _ (fun i hi => by rw [e1 i (by omega)])
    omega
  · intro ht
    obtain ⟨u, l⟩ := sides_stay ha.lm.mat h.lm.mat hp.lm.mat e1 e2 ht
    refine dia_brk hp ha (fun x hx => ?_)
    have r1 := (hp.lm.mat (L.bo n x) (L.bo_lt hx)).1
    have r2 := (ha.lm.mat (L.bo n x) (L.bo_lt hx)).1
    unfold Db
    by_cases c : x < n
    · have eb : L.bo n x = x := by unfold L.bo; rw [if_pos c]
      rw [eb] at r1 r2 ⊢
      by_cases q : fn (pwr n d k) x < n
      · rw [(u x c).1 q]
      · have := (u x c).2 (by omega)
        unfold L.bo
        rw [if_neg (by omega), if_neg (by omega)]
        omega
    · have eb : L.bo n x = n + (2 * n - 1 - x) := by unfold L.bo; rw [if_neg c]; omega
      rw [eb] at r1 r2 ⊢
      by_cases q : fn (pwr n d k) (n + (2 * n - 1 - x)) < n
      · have := (l (2 * n - 1 - x) (by omega)).2 q
        unfold L.bo
        rw [if_pos (by omega), if_pos (by omega)]
        omega
      · rw [(l (2 * n - 1 - x) (by omega)).1 (by omega)]
theorem pwr_low {n : Nat} {d : List Int} (h : Dia n d) (m : Nat) : (∀ k, k < m → pwr n d (k + 1) ≠ pwr n d k) → thr n (fn (pwr n d m)) + m ≤ n := by
  induction m with
  | zero => intro _; exact cntP_le _ _
  | succ m ih =>
    intro hk
    have i := ih (fun k hk' => hk k (by omega))
    have f := pwr_fall h m
    have := hk m (by omega)
    have : thr n (fn (pwr n d (m + 1))) ≠ thr n (fn (pwr n d m)) := fun e => this (f.2 e)
    omega
theorem least_of (P : Nat → Prop) : ∀ (N : Nat), P N → ∃ m, m ≤ N ∧ P m ∧ ∀ k, k < m → ¬ P k := by
  intro N
  induction N using Nat.strongRecOn with
  | ind N ih =>
    intro h
    by_cases c : ∃ k, k < N ∧ P k
    · obtain ⟨k, hk, p⟩ := c
      obtain ⟨m, h1, h2, h3⟩ := ih k hk p
      exact ⟨m, by omega, h2, h3⟩
    · exact ⟨N, Nat.le_refl _, h, fun k hk p => c ⟨k, hk, p⟩⟩
/-- the first power that was there before -/
theorem pwr_rep {n : Nat} {d : List Int} (h : Dia n d) : ∃ M I, M ≤ n + 1 ∧ I < M ∧ pwr n d I = pwr n d M ∧ (∀ b, b < I → pwr n d b ≠ pwr n d M) ∧ (∀ a b, a < M → b < a → pwr n d b ≠ pwr n d a) := by
  have ex : ∃ k, k ≤ n ∧ pwr n d (k + 1) = pwr n d k := by
    refine Classical.byContradiction fun c => ?_
    have := pwr_low h (n + 1) (fun k hk e => c ⟨k, by omega, e⟩)
    omega
  obtain ⟨k, hk, e⟩ := ex
  obtain ⟨M, h1, ⟨J, hJ, eJ⟩, h3⟩ := least_of (fun M => ∃ b, b < M ∧ pwr n d b = pwr n d M) (k + 1) ⟨k, by omega, e.symm⟩
  obtain ⟨I, i1, i2, i3⟩ := least_of (fun b => pwr n d b = pwr n d M) J eJ
  exact ⟨M, I, by omega, by omega, i2, i3, fun a b ha hb q => h3 a ha ⟨b, hb, q⟩⟩
def pws (n : Nat) (d : List Int) (m : Nat) : List (List Int) := (List.range m).map (pwr n d)
theorem pws_len (n : Nat) (d : List Int) (m : Nat) : (pws n d m).length = m := by simp [pws]
theorem pws_rd {n : Nat} {d : List Int} {m i : Nat} (h : i < m) : rd_L3 (pws n d m) (i : Int) = pwr n d i := by
  unfold rd_L3 pws
  rw [Int.toNat_natCast]
  simp [List.getD, h]
theorem pws_succ (n : Nat) (d : List Int) (m : Nat) : pws n d m ++ [pwr n d m] = pws n d (m + 1) := by
  unfold pws
  rw [List.range_succ, List.map_append]; rfl
theorem power_hit {n : Nat} {d : List Int} (h : Dia n d) {M I : Nat} (hM : M ≤ 1000) (hI : I < M) (e : pwr n d I = pwr n d M) (ne : ∀ b, b < I → pwr n d b ≠ pwr n d M) (c : Nat) : ∀ i, i + c = I →
    Ev (fun k => plait_Power.l1 k d (pws n d M) (pwr n d M) (M : Int) (i : Int)) (((I + 1 : Nat) : Int), ((M + 1 : Nat) : Int), 0) ∧
    Ev (fun k => pomaderef07_Power.l1 k d (pws n d M) (pwr n d M) (i : Int)) (((I + 1 : Nat) : Int), ((M + 1 : Nat) : Int), 0) := by
  induction c with
  | zero =>
    intro i hi
    obtain rfl : i = I := by omega
    have hl := (pwr_dia h i).lm.len
    have hl2 := (pwr_dia h M).lm.len
    have hn := h.lim
    constructor
    · refine Ev.step (f := fun k => (plait_diagram_int_69.f k (rd_L3 (pws n d M) (i : Int)) (pwr n d M)).bind fun t634 => (if t634 = true then (some (wrap64 ((i : Int) + 1), wrap64 (((pws n d M).length : Int) + 1), 0)) else (plait_Power.l1 k d (pws n d M) (pwr n d M) (M : Int) (wrap64 ((i : Int) + 1))))) (fun k => ?_) ?_
      · simp only [plait_Power.l1]
        rw [if_pos (by omega), if_pos (by omega), if_pos (by rw [pws_len]; omega)]
      · rw [pws_rd hI]
        refine Ev.bind (eq_ev (by omega) (by omega)) ?_
        refine Ev.congr (f := fun _ => some (((i + 1 : Nat) : Int), ((M + 1 : Nat) : Int), 0)) (fun k => ?_) (Ev.now _)
        rw [if_pos (decide_eq_true e), pws_len, pw64 (by omega) (by omega), pw64 (by omega) (by omega)]
        rfl
    · refine Ev.step (f := fun k => (pomaderef07_same.f k (rd_L3 (pws n d M) (i : Int)) (pwr n d M)).bind fun t634 => (if t634 = true then (some (wrap64 ((i : Int) + 1), wrap64 (((pws n d M).length : Int) + 1), 0)) else (pomaderef07_Power.l1 k d (pws n d M) (pwr n d M) (wrap64 ((i : Int) + 1))))) (fun k => ?_) ?_
      · simp only [pomaderef07_Power.l1]
        rw [if_pos (by rw [pws_len]; omega), if_pos (by omega)]
      · rw [pws_rd hI]
        refine Ev.bind (refsame_ev (by omega) (by omega)) ?_
        refine Ev.congr (f := fun _ => some (((i + 1 : Nat) : Int), ((M + 1 : Nat) : Int), 0)) (fun k => ?_) (Ev.now _)
        rw [if_pos (decide_eq_true e), pws_len, pw64 (by omega) (by omega), pw64 (by omega) (by omega)]
        rfl
  | succ c ih =>
    intro i hi
    have hl := (pwr_dia h i).lm.len
    have hl2 := (pwr_dia h M).lm.len
    have hn := h.lim
    have q := ih (i + 1) (by omega)
    have nn := ne i (by omega)
    constructor
    · refine Ev.step (f := fun k => (plait_diagram_int_69.f k (rd_L3 (pws n d M) (i : Int)) (pwr n d M)).bind fun t634 => (if t634 = true then (some (wrap64 ((i : Int) + 1), wrap64 (((pws n d M).length : Int) + 1), 0)) else (plait_Power.l1 k d (pws n d M) (pwr n d M) (M : Int) (wrap64 ((i : Int) + 1))))) (fun k => ?_) ?_
      · simp only [plait_Power.l1]
        rw [if_pos (by omega), if_pos (by omega), if_pos (by rw [pws_len]; omega)]
      · rw [pws_rd (by omega)]
        refine Ev.bind (eq_ev (by omega) (by omega)) ?_
        refine Ev.congr (fun k => ?_) q.1
        rw [if_neg (by rw [decide_eq_false nn]; decide), pw64 (by omega) (by omega)]
        rfl
    · refine Ev.step (f := fun k => (pomaderef07_same.f k (rd_L3 (pws n d M) (i : Int)) (pwr n d M)).bind fun t634 => (if t634 = true then (some (wrap64 ((i : Int) + 1), wrap64 (((pws n d M).length : Int) + 1), 0)) else (pomaderef07_Power.l1 k d (pws n d M) (pwr n d M) (wrap64 ((i : Int) + 1))))) (fun k => ?_) ?_
      · simp only [pomaderef07_Power.l1]
        rw [if_pos (by rw [pws_len]; omega), if_pos (by omega)]
      · rw [pws_rd (by omega)]
        refine Ev.bind (refsame_ev (by omega) (by omega)) ?_
        refine Ev.congr (fun k => ?_) q.2
        rw [if_neg (by rw [decide_eq_false nn]; decide), pw64 (by omega) (by omega)]
        rfl
theorem power_miss {n : Nat} {d : List Int} (h : Dia n d) {m : Nat} (hM : m ≤ 1000) (ne : ∀ b, b < m → pwr n d b ≠ pwr n d m) {r : Int × Int × Int}
    (r1 : Ev (fun k => plait_Power.l0 k d (pws n d (m + 1))) r) (r2 : Ev (fun k => pomaderef07_Power.l0 k d (pws n d (m + 1))) r) (c : Nat) : ∀ i, i + c = m →
    Ev (fun k => plait_Power.l1 k d (pws n d m) (pwr n d m) (m : Int) (i : Int)) r ∧ Ev (fun k => pomaderef07_Power.l1 k d (pws n d m) (pwr n d m) (i : Int)) r := by
  induction c with
  | zero =>
    intro i hi
    constructor
    · refine Ev.step (fun k => ?_) r1
      simp only [plait_Power.l1]
      rw [if_neg (by omega), if_pos (by rw [pws_len]; omega), pws_succ]
    · refine Ev.step (fun k => ?_) r2
      simp only [pomaderef07_Power.l1]
      rw [if_neg (by rw [pws_len]; omega), if_pos (by rw [pws_len]; omega), pws_succ]
  | succ c ih =>
    intro i hi
    have hl := (pwr_dia h i).lm.len
    have hl2 := (pwr_dia h m).lm.len
    have hn := h.lim
    have q := ih (i + 1) (by omega)
    have nn := ne i (by omega)
    constructor
    · refine Ev.step (f := fun k => (plait_diagram_int_69.f k (rd_L3 (pws n d m) (i : Int)) (pwr n d m)).bind fun t634 => (if t634 = true then (some (wrap64 ((i : Int) + 1), wrap64 (((pws n d m).length : Int) + 1), 0)) else (plait_Power.l1 k d (pws n d m) (pwr n d m) (m : Int) (wrap64 ((i : Int) + 1))))) (fun k => ?_) ?_
      · simp only [plait_Power.l1]
        rw [if_pos (by omega), if_pos (by omega), if_pos (by rw [pws_len]; omega)]
      · rw [pws_rd (by omega)]
        refine Ev.bind (eq_ev (by omega) (by omega)) ?_
        refine Ev.congr (fun k => ?_) q.1
        rw [if_neg (by rw [decide_eq_false nn]; decide), pw64 (by omega) (by omega)]
        rfl
    · refine Ev.step (f := fun k => (pomaderef07_same.f k (rd_L3 (pws n d m) (i : Int)) (pwr n d m)).bind fun t634 => (if t634 = true then (some (wrap64 ((i : Int) + 1), wrap64 (((pws n d m).length : Int) + 1), 0)) else (pomaderef07_Power.l1 k d (pws n d m) (pwr n d m) (wrap64 ((i : Int) + 1))))) (fun k => ?_) ?_
      · simp only [pomaderef07_Power.l1]
        rw [if_pos (by rw [pws_len]; omega), if_pos (by omega)]
      · rw [pws_rd (by omega)]
        refine Ev.bind (refsame_ev (by omega) (by omega)) ?_
        refine Ev.congr (fun k => ?_) q.2
        rw [if_neg (by rw [decide_eq_false nn]; decide), pw64 (by omega) (by omega)]
        rfl
theorem power_top {n : Nat} {d : List Int} (h : Dia n d) {m : Nat} (h1 : 1 ≤ m) (hM : m ≤ 1000) {r : Int × Int × Int}
    (r1 : Ev (fun k => plait_Power.l1 k d (pws n d m) (pwr n d m) (m : Int) ((0 : Nat) : Int)) r) (r2 : Ev (fun k => pomaderef07_Power.l1 k d (pws n d m) (pwr n d m) ((0 : Nat) : Int)) r) :
    Ev (fun k => plait_Power.l0 k d (pws n d m)) r ∧ Ev (fun k => pomaderef07_Power.l0 k d (pws n d m)) r := by
  obtain ⟨m, rfl⟩ : ∃ q, m = q + 1 := ⟨m - 1, by omega⟩
  have hn := h.lim
  have e : wrap64 ((((pws n d (m + 1)).length : Nat) : Int) - 1) = (m : Int) := by rw [pws_len, pw64 (by omega) (by omega)]; omega
  constructor
  · refine Ev.step (fun k => ?_) r1
    simp only [plait_Power.l0]
    rw [e, if_pos (by omega), if_pos (by rw [pws_len]; omega), pws_rd (by omega), product_ok (by omega) (pwr_dia h m).lm h.lm, Option.bind_some, pws_len]
    rfl
  · refine Ev.step (f := fun k => (pomaderef07_product.f k (pwr n d m) d).bind fun bt643 => (pomaderef07_Power.l1 k d (pws n d (m + 1)) bt643.1 0)) (fun k => ?_) ?_
    · simp only [pomaderef07_Power.l0]
      rw [e, if_pos (by omega), if_pos (by rw [pws_len]; omega), pws_rd (by omega)]
    · exact Ev.bind (ref_product (by omega) (pwr_dia h m).lm h.lm) r2
theorem power_run {n : Nat} {d : List Int} (h : Dia n d) {M I : Nat} (hM : M ≤ 1000) (hI : I < M) (e : pwr n d I = pwr n d M) (ne : ∀ b, b < I → pwr n d b ≠ pwr n d M) (na : ∀ a b, a < M → b < a → pwr n d b ≠ pwr n d a) (c : Nat) : ∀ m, 1 ≤ m → m + c = M →
    Ev (fun k => plait_Power.l0 k d (pws n d m)) (((I + 1 : Nat) : Int), ((M + 1 : Nat) : Int), 0) ∧ Ev (fun k => pomaderef07_Power.l0 k d (pws n d m)) (((I + 1 : Nat) : Int), ((M + 1 : Nat) : Int), 0) := by
  induction c with
  | zero =>
    intro m h1 hm
    obtain rfl : m = M := by omega
    have := power_hit h hM hI e ne I 0 (by omega)
    exact power_top h h1 hM this.1 this.2
  | succ c ih =>
    intro m h1 hm
    have i := ih (m + 1) (by omega) (by omega)
    have := power_miss h (by omega) (fun b hb => na m b (by omega) hb) i.1 i.2 m 0 (by omega)
    exact power_top h h1 (by omega) this.1 this.2
/-- the numbers of Power, by both -/
theorem power_dia {n : Nat} {d : List Int} (h : Dia n d) : ∃ M I, M ≤ n + 1 ∧ I < M ∧ pwr n d I = pwr n d M ∧ (∀ b, b < I → pwr n d b ≠ pwr n d M) ∧ (∀ a b, a < M → b < a → pwr n d b ≠ pwr n d a) ∧
    Ev (fun k => plait_Power.f k d) (((I + 1 : Nat) : Int), ((M + 1 : Nat) : Int), 0) ∧ Ev (fun k => pomaderef07_Power.f k d) (((I + 1 : Nat) : Int), ((M + 1 : Nat) : Int), 0) := by
  obtain ⟨M, I, h1, h2, h3, h4, h5⟩ := pwr_rep h
  have hn := h.lim
  have r := power_run h (by omega) h2 h3 h4 h5 (M - 1) 1 (by omega) (by omega)
  obtain ⟨y1, y2, _⟩ := dia_yes h
  exact ⟨M, I, h1, h2, h3, h4, h5, Ev.congr (fun k => rfl) (Ev.bind y1 (Ev.congr (fun k => by rw [if_pos rfl]; rfl) r.1)), Ev.congr (fun k => rfl) (Ev.bind y2 (Ev.congr (fun k => by rw [if_pos rfl]; rfl) r.2))⟩
theorem power_both (d : List Int) : ∃ r, Ev (fun k => plait_Power.f k d) r ∧ Ev (fun k => pomaderef07_Power.f k d) r := by
  obtain ⟨e, h1, h2, h3⟩ := dia_both d
  by_cases c : e = 0
  · subst c
    obtain ⟨n, h⟩ := dia_of h2
    obtain ⟨M, I, _, _, _, _, _, r1, r2⟩ := power_dia h
    exact ⟨_, r1, r2⟩
  · exact ⟨(0, 0, e), Ev.congr (fun k => rfl) (Ev.bind h1 (Ev.congr (fun k => by rw [if_neg c]) (Ev.now _))), Ev.congr (fun k => rfl) (Ev.bind h2 (Ev.congr (fun k => by rw [if_neg c]) (Ev.now _)))⟩
end Go.Proofs.Ytjfkompfkgjdaaa.L
end
section
/- Plait: PlaitPowers: Power returns what the specification returns. -/
namespace Go.Proofs.Ytjfkompfkgjdaaa.L
open Go.RowKit Go.Proofs.Ytjfkompfkgjdaaa.PC Go.Proofs.YtjfkompfkgjdaaaW.PrintWords Go.Proofs.YtjfkompfkgjdaaaW.PrintLast Go.Proofs.Ytjfkompfkgjdaaa.G
theorem PlaitPowers_pure : pomadelaw07_PlaitPowers.Pure := by
  intro l _ _ _
  refine Ev.rounds (g := fun k => pomadelaw07_PlaitPowers.f k l) ?_
  obtain ⟨b, hb⟩ : ∃ b, pomadelaw07_few.f l ([] : List Int) = some b := by
    unfold pomadelaw07_few.f
    by_cases c1 : (l.length : Int) ≤ 50
    · rw [if_pos c1]; exact ⟨_, rfl⟩
    · rw [if_neg c1]; exact ⟨_, rfl⟩
  cases b with
  | false =>
    refine Ev.congr (f := fun _ => some true) (fun k => ?_) (Ev.now _)
    unfold pomadelaw07_PlaitPowers.f
    rw [hb, Option.bind_some, if_neg (by decide)]; rfl
  | true =>
    obtain ⟨r, r1, r2⟩ := power_both l
    refine Ev.congr (f := fun k => (plait_Power.f k l).bind fun bt653 => ((pomaderef07_Power.f k l).bind fun bt656 => (if bt653.1 = bt656.1 then (if bt653.2.1 = bt656.2.1 then (if bt653.2.2 = bt656.2.2 then ((pomadelaw07_alive.f).bind fun t659 => (some t659)) else (some false)) else (some false)) else (some false)))) (fun k => ?_) ?_
    · unfold pomadelaw07_PlaitPowers.f
      rw [hb, Option.bind_some, if_pos rfl]
    · refine Ev.bind r1 ?_
      refine Ev.bind r2 ?_
      exact Ev.congr (f := fun _ => some true) (fun k => by rw [if_pos rfl, if_pos rfl, if_pos rfl]; rfl) (Ev.now _)
end Go.Proofs.Ytjfkompfkgjdaaa.L
namespace Go.Proofs.Ytjfkompfkgjdaaa.Pure
theorem PlaitPowers : Go.Proofs.Ytjfkompfkgjdaaa.PC.pomadelaw07_PlaitPowers.Pure := Go.Proofs.Ytjfkompfkgjdaaa.L.PlaitPowers_pure
end Go.Proofs.Ytjfkompfkgjdaaa.Pure
end
section
namespace Go.Proofs.Ytjfkompfkgjdaaa.plaitPowers
open Go.ChangeShapes Go.WideShapes Go.ChangeAt Go.RowKit
open Go.ChangeMaps (open_string shut_string)
set_option linter.unusedVariables false
theorem own : ownKnob Try.prog.godebug = none := by kernel_rfl
theorem laidOut : laidOutB Try.prog = true := by kernel_rfl
def IsRow (k : IntKind) (w : World) (a : Option Addr) (len cap : Nat) (zs : List Int) : Prop :=
  (a = none ∧ len = 0 ∧ cap = 0 ∧ zs = []) ∨
  ∃ x, a = some x ∧ len ≤ cap ∧ cap ≤ maxLen ∧ zs.length = cap ∧ (∀ i, i < zs.length → w.cell? (x.add i) = some (.int k (zs.getD i 0))) ∧ ∀ n ∈ zs, (Lit.int k n).wf = true
set_option maxRecDepth 100000 in
theorem lifted (os : Os) (started : os.Started) (H : Type) (enc : TypeId × Value → H) :
    ReturnsInHanded {} Try.checked os 10 .any (Rows.plaitPowersSpec.pre6 enc Try.prog Try.f10 Rows.plaitPowersRow.domain false) (Rows.plaitPowersSpec.post enc Try.prog Try.f10 false true false false) := by
  refine returnsInHanded_of_change_sized (C := Try.checked) own started (by kernel_rfl) Try.func10
    (ChangeSpec.witness6 (enc := enc) (C := Try.checked) false ⟨#[], #[.slice none 0 0], []⟩ 8 (by kernel_rfl) (by kernel_rfl) (by kernel_rfl) (by kernel_rfl)) ?_
  intro W base args ds gs before hval0 hW hcnd hsz0 _
  have hsz : (DataW.weightsEach Try.prog (Try.f10.params.toList ++ Rows.plaitPowersSpec.plain.varTypes Try.prog) (ds ++ gs)).all (· ≤ reachBytes) = true := hsz0
  have hval : ∀ (j : Nat) t v, Try.f10.params[j]? = some t → args[j]? = some v → Value.okWide Try.prog W .any base t v := hval0
  have hW' := hW
  obtain ⟨p, q, hA0, hV, rfl, hfz, hnd⟩ := hW
  have hA : DataW.TrodAll enc Try.prog W 0 (fun _ => true) true Try.f10.params.toList args.toList ds p := hA0
  rw [Try.params10] at hA hval hsz
  obtain ⟨v0, vs0, d0, ds0, p0, q0, hargs, rfl, rfl, h0, r0⟩ := trodAll_cons hA
  obtain ⟨rfl, rfl, rfl⟩ := trodAll_nil r0
  obtain rfl : args = #[v0] := by cases args; simp_all
  obtain ⟨rfl, rfl⟩ := trodVars_none hV
  obtain ⟨a0, len0, cap0, rfl⟩ := okWide_slice Try.underlying22 (hval 0 22 v0 rfl rfl)
  have k0 := h0
  have lt0 : ∀ x ∈ p0, x.block < W.heap.size := by obtain ⟨m, hm⟩ := k0; exact DataW.trod_lt m _ _ _ hm
  obtain ⟨z0, w0⟩ : ∃ zs, IsRow .i64 W a0 len0 cap0 zs := by
    obtain ⟨fuel, hf⟩ := h0
    rcases open_ints Try.underlying22 Try.underlying3 (by kernel_rfl) hf with ⟨hcs, _⟩ | ⟨x, l, c, zs, hcs, _, hl, hm, hz, _, hcell, hwz⟩
    · simp [Value.cells] at hcs
      obtain ⟨rfl, rfl, rfl⟩ := hcs
      exact ⟨[], .inl ⟨rfl, rfl, rfl, rfl⟩⟩
    · simp [Value.cells] at hcs
      obtain ⟨rfl, rfl, rfl⟩ := hcs
      exact ⟨zs, .inr ⟨_, rfl, hl, hm, by simpa using hz, hcell, hwz⟩⟩
  have y0 : len0 * 8 ≤ 140737488351232 := Go.Proofs.YtjfkompfkgjdaaaW.PrintWords.sized_ints hsz (j := 0) (t := 22) rfl rfl Try.underlying22 Try.underlying3 (by kernel_rfl) (by kernel_rfl) h0
  clear hA0 hval0 hsz0 hsz
  refine (PC.pomadelaw07_PlaitPowers.walk Pure.PlaitPowers a0 len0 cap0 z0 W w0 y0).mono fun e W' ⟨he, bel⟩ => ?_
  subst he
  exact ⟨_, rfl, _, _, _, [], _, [], hW', trodAll_mk1 (shut_bool Try.underlying4 _), (trodAll_cons_mk (Below.trod laidOut (by kernel_rfl) (of_decide_eq_true (by kernel_rfl)) k0 bel lt0) trodAll_mk0), rfl, bel.frame _, fun h => by cases h⟩
theorem over : Rows.plaitPowersRow.holds Try.pinned (OpenSpec.ofChange Rows.plaitPowersSpec) :=
  OpenClaim.holds_of_wide 10 Try.f10 rfl rfl rfl rfl rfl rfl rfl ⟨rfl, rfl, rfl, rfl, rfl⟩ rfl rfl rfl rfl rfl (by kernel_rfl) Try.func10 (by kernel_rfl)
    (of_decide_eq_true (by kernel_rfl)) (by unfold Func.isWrapper; first | (rw [if_pos (by decide +kernel)]; kernel_rfl) | (rw [if_neg (by decide +kernel)]; exact ⟨rfl, rfl⟩))
    (fun os started H enc _ => lifted os started H enc)
theorem proved : Rows.PlaitPowersSaid := over
#print axioms proved
end Go.Proofs.Ytjfkompfkgjdaaa.plaitPowers
namespace Go.Proofs.Ytjfkompfkgjdaaa
/-- The row, under a short name, for the claim. -/
theorem plaitPowers_holds : Rows.PlaitPowersSaid := plaitPowers.proved
end Go.Proofs.Ytjfkompfkgjdaaa
end
