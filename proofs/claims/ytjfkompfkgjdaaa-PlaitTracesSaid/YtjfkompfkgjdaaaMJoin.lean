/- Two matchings, one on top of the other, glued along the middle: plain. -/
import Derived.Test.YtjfkompfkgjdaaaMOrb
namespace Go.Proofs.Ytjfkompfkgjdaaa.G
/-! ### two matchings, one on top of the other -/
/-- a matching of 2 n points -/
def Mat (n : Nat) (a : Nat → Nat) : Prop := ∀ z, z < 2 * n → a z < 2 * n ∧ a z ≠ z ∧ a (a z) = z
def jn (n : Nat) (a b : Nat → Nat) (z : Nat) : Nat := if z < 2 * n then a z else if z < 4 * n then 2 * n + b (z - 2 * n) else z
def up (n m : Nat) : Nat := n + m
def dn (n m : Nat) : Nat := 2 * n + m
def mids (n : Nat) : List (Nat × Nat) := prs (up n) (dn n) n
theorem jn_lo {n : Nat} {a b : Nat → Nat} {z : Nat} (h : z < 2 * n) : jn n a b z = a z := by unfold jn; rw [if_pos h]
theorem jn_hi {n : Nat} {a b : Nat → Nat} {z : Nat} (h : z < 2 * n) : jn n a b (2 * n + z) = 2 * n + b z := by
  unfold jn; rw [if_neg (by omega), if_pos (by omega), Nat.add_sub_cancel_left]
theorem jn_off {n : Nat} {a b : Nat → Nat} {z : Nat} (h : 4 * n ≤ z) : jn n a b z = z := by unfold jn; rw [if_neg (by omega), if_neg (by omega)]
theorem jn_cases {n z : Nat} : z < 2 * n ∨ (∃ y, y < 2 * n ∧ z = 2 * n + y) ∨ 4 * n ≤ z := by
  by_cases c : z < 2 * n
  · exact .inl c
  · by_cases d : z < 4 * n
    · exact .inr (.inl ⟨z - 2 * n, by omega, by omega⟩)
    · exact .inr (.inr (by omega))
theorem jn_inv {n : Nat} {a b : Nat → Nat} (ha : Mat n a) (hb : Mat n b) : Inv2 (jn n a b) := by
  intro z
  rcases @jn_cases n z with h | ⟨y, h, rfl⟩ | h
  · rw [jn_lo h, jn_lo (ha z h).1, (ha z h).2.2]
  · rw [jn_hi h, jn_hi (hb y h).1, (hb y h).2.2]
  · rw [jn_off h, jn_off h]
theorem jn_alive {n : Nat} {a b : Nat → Nat} (ha : Mat n a) (hb : Mat n b) {z : Nat} : jn n a b z ≠ z ↔ z < 4 * n := by
  rcases @jn_cases n z with h | ⟨y, h, rfl⟩ | h
  · rw [jn_lo h]; exact ⟨fun _ => by omega, fun _ => (ha z h).2.1⟩
  · rw [jn_hi h]; exact ⟨fun _ => by omega, fun _ e => (hb y h).2.1 (by omega)⟩
  · rw [jn_off h]; exact ⟨fun e => absurd rfl e, fun e => by omega⟩
theorem jn_lt {n : Nat} {a b : Nat → Nat} (ha : Mat n a) (hb : Mat n b) {z : Nat} (h : z < 4 * n) : jn n a b z < 4 * n := by
  rcases @jn_cases n z with c | ⟨y, c, rfl⟩ | c
  · rw [jn_lo c]; have := (ha z c).1; omega
  · rw [jn_hi c]; have := (hb y c).1; omega
  · omega
theorem prs_ok {f g : Nat → Nat} {σ : Nat → Nat} (k : Nat) (hn : ∀ i j, i < k → j < k → (f i = f j → i = j) ∧ f i ≠ g j ∧ (g i = g j → i = j)) (ha : ∀ i, i < k → σ (f i) ≠ f i ∧ σ (g i) ≠ g i) : OK σ (prs f g k) := by
  induction k with
  | zero => trivial
  | succ k ih =>
    have h := ih (fun i j a b => hn i j (by omega) (by omega)) (fun i a => ha i (by omega))
    have hk := ha k (by omega)
    refine ⟨(hn k k (by omega) (by omega)).2.1, hk.1, hk.2, fun q => ?_, fun q => ?_, h⟩
    · obtain ⟨i, a, b⟩ := (pts_prs _ _ _ _).1 q
      rcases b with b | b
      · have := (hn k i (by omega) (by omega)).1 b; omega
      · exact (hn k i (by omega) (by omega)).2.1 b
    · obtain ⟨i, a, b⟩ := (pts_prs _ _ _ _).1 q
      rcases b with b | b
      · exact (hn i k (by omega) (by omega)).2.1 b.symm
      · have := (hn k i (by omega) (by omega)).2.2 b; omega
theorem mids_ok {n : Nat} {a b : Nat → Nat} (ha : Mat n a) (hb : Mat n b) : OK (jn n a b) (mids n) := by
  refine prs_ok n (fun i j hi hj => ?_) (fun i hi => ⟨(jn_alive ha hb).2 ?_, (jn_alive ha hb).2 ?_⟩) <;> simp only [up, dn] <;> omega
theorem mids_pts {n z : Nat} : pts (mids n) z ↔ n ≤ z ∧ z < 3 * n := by
  unfold mids
  rw [pts_prs]
  constructor
  · rintro ⟨i, h, e⟩; simp only [up, dn] at e; omega
  · intro h
    by_cases c : z < 2 * n
    · exact ⟨z - n, by omega, .inl (by simp only [up]; omega)⟩
    · exact ⟨z - 2 * n, by omega, .inr (by simp only [dn]; omega)⟩
/-- the outer points -/
def emb (n p : Nat) : Nat := if p < n then p else p + 2 * n
def une (n q : Nat) : Nat := if q < n then q else q - 2 * n
theorem emb_out {n p : Nat} (h : p < 2 * n) : ¬ pts (mids n) (emb n p) ∧ emb n p < 4 * n := by
  rw [mids_pts]; unfold emb; split <;> omega
theorem une_emb {n p : Nat} : une n (emb n p) = p := by
  unfold une emb
  by_cases c : p < n
  · rw [if_pos c, if_pos c]
  · rw [if_neg c, if_neg (by omega)]; omega
theorem emb_une {n q : Nat} (h : ¬ pts (mids n) q) (h2 : q < 4 * n) : emb n (une n q) = q ∧ une n q < 2 * n := by
  rw [mids_pts] at h
  unfold une emb
  by_cases c : q < n
  · rw [if_pos c, if_pos c]; omega
  · rw [if_neg c, if_neg (by omega)]; omega
def prod (n : Nat) (a b : Nat → Nat) (p : Nat) : Nat := une n ((glue (mids n) (jn n a b)).1 (emb n p))
def lops (n : Nat) (a b : Nat → Nat) : Nat := (glue (mids n) (jn n a b)).2
theorem glue_out {n : Nat} {a b : Nat → Nat} (ha : Mat n a) (hb : Mat n b) {z : Nat} (h1 : ¬ pts (mids n) z) (h2 : z < 4 * n) : ¬ pts (mids n) ((glue (mids n) (jn n a b)).1 z) ∧ (glue (mids n) (jn n a b)).1 z < 4 * n := by
  have hi := jn_inv ha hb
  have ho := mids_ok ha hb
  have gi := glue_inv _ _ hi ho
  have ga := glue_alive _ _ hi ho z h1 ((jn_alive ha hb).2 h2)
  refine ⟨fun e => ?_, ?_⟩
  · have := glue_dead _ _ hi ho _ (.inl e); rw [gi] at this; exact ga this.symm
  · refine Classical.byContradiction fun e => ?_
    have := glue_dead _ _ hi ho ((glue (mids n) (jn n a b)).1 z) (.inr (jn_off (by omega))); rw [gi] at this; exact ga this.symm
theorem prod_emb {n : Nat} {a b : Nat → Nat} (ha : Mat n a) (hb : Mat n b) {p : Nat} (h : p < 2 * n) : emb n (prod n a b p) = (glue (mids n) (jn n a b)).1 (emb n p) ∧ prod n a b p < 2 * n := by
  have e := emb_out h
  have g := glue_out ha hb e.1 e.2
  exact emb_une g.1 g.2
theorem prod_mat {n : Nat} {a b : Nat → Nat} (ha : Mat n a) (hb : Mat n b) : Mat n (prod n a b) := by
  intro p hp
  have h1 := prod_emb ha hb hp
  have h2 := prod_emb ha hb h1.2
  have gi := glue_inv _ _ (jn_inv ha hb) (mids_ok ha hb)
  refine ⟨h1.2, fun e => ?_, ?_⟩
  · have ga := glue_alive _ _ (jn_inv ha hb) (mids_ok ha hb) _ (emb_out hp).1 ((jn_alive ha hb).2 (emb_out hp).2)
    rw [e] at h1; exact ga h1.1.symm
  · have h3 := h2.1
    rw [h1.1, gi] at h3
    have := congrArg (une n) h3
    rwa [une_emb, une_emb] at this
/-- what a walk from an outer point finds is the partner in the product -/
theorem prod_path {n : Nat} {a b : Nat → Nat} (ha : Mat n a) (hb : Mat n b) {p q : Nat} (hp : p < 2 * n) (h : Path (jn n a b) (mids n) (emb n p) q) : une n q = prod n a b p := by
  unfold prod
  rw [path_glue _ _ (jn_inv ha hb) (mids_ok ha hb) (emb_out hp).1 h]
/-! ### the steps through the middle -/
theorem tau_up {n : Nat} {a b : Nat → Nat} (ha : Mat n a) (hb : Mat n b) {m : Nat} (hm : m < n) : tau (mids n) (n + m) = 2 * n + m ∧ tau (mids n) (2 * n + m) = n + m := tau_prs n (mids_ok ha hb) m hm
/-- the indices whose curves stay in the middle -/
def Cl (n : Nat) (a b : Nat → Nat) (m : Nat) : Prop := m < n ∧ ∀ z, Conn (jn n a b) (tau (mids n)) (n + m) z → pts (mids n) z
theorem cl_ixs {n : Nat} {a b : Nat → Nat} (ha : Mat n a) (hb : Mat n b) : Ixs (up n) (dn n) n (jn n a b) (Cl n a b) (fun m => a (n + m) - n) (fun m => b m) := by
  refine ⟨fun m h => h.1, fun m hm => ⟨fun h => h.2, fun h => ⟨hm, h⟩⟩, fun m h => ?_, fun m h => ?_⟩
  · obtain ⟨hm, h⟩ := h
    have c1 : Conn (jn n a b) (tau (mids n)) (n + m) (a (n + m)) := by
      have := Conn.s (σ := jn n a b) (τ := tau (mids n)) (x := n + m) _ .refl
      rwa [jn_lo (by omega)] at this
    have h1 := mids_pts.1 (h _ c1)
    have h2 := (ha (n + m) (by omega)).1
    have e : n + (a (n + m) - n) = a (n + m) := by omega
    refine ⟨⟨by omega, fun z hz => ?_⟩, ?_⟩
    · rw [e] at hz; exact h _ (c1.trans hz)
    · simp only [up]; rw [jn_lo (by omega), e]
  · obtain ⟨hm, h⟩ := h
    have c1 : Conn (jn n a b) (tau (mids n)) (n + m) (2 * n + b m) := by
      have := Conn.s _ (Conn.t (σ := jn n a b) (τ := tau (mids n)) (x := n + m) _ .refl)
      rwa [(tau_up ha hb hm).1, jn_hi (by omega)] at this
    have h1 := mids_pts.1 (h _ c1)
    have h2 := (hb m (by omega)).1
    have hbm : b m < n := by omega
    have c2 : Conn (jn n a b) (tau (mids n)) (n + m) (n + b m) := by
      have := Conn.t _ c1
      rwa [(tau_up ha hb hbm).2] at this
    refine ⟨⟨hbm, fun z hz => h _ (c2.trans hz)⟩, ?_⟩
    simp only [dn]; rw [jn_hi (by omega)]
theorem cl_pairs {n : Nat} {a b : Nat → Nat} (ha : Mat n a) (hb : Mat n b) : Pairs (Cl n a b) (fun m => a (n + m) - n) ∧ Pairs (Cl n a b) (fun m => b m) := by
  have h := cl_ixs ha hb
  refine ⟨⟨fun m u => (h.sA m u).1, fun m u e => ?_, fun m u => ?_⟩, ⟨fun m u => (h.sB m u).1, fun m u => ?_, fun m u => ?_⟩⟩
  · have h1 := (h.sA m u).2
    have hm := u.1
    simp only [up] at h1
    rw [jn_lo (by omega), e] at h1
    exact (ha _ (by omega)).2.1 h1
  · have h1 := (h.sA m u).2
    have hm := u.1
    simp only [up] at h1
    rw [jn_lo (by omega)] at h1
    show a (n + (a (n + m) - n)) - n = m
    rw [← h1, (ha _ (by omega)).2.2]; omega
  · have hm := u.1
    exact (hb m (by omega)).2.1
  · have hm := u.1
    exact (hb m (by omega)).2.2
theorem lops_fst {n : Nat} {a b : Nat → Nat} (ha : Mat n a) (hb : Mat n b) : lops n a b = cntP (Fst (Cl n a b) (fun m => a (n + m) - n) (fun m => b m)) n := by
  unfold lops mids
  rw [glue_count _ _ _ _ (jn_inv ha hb) (mids_ok ha hb)]
  exact cntP_congr n (fun i hi => (cl_ixs ha hb).mn (jn_inv ha hb) (mids_ok ha hb) hi)
/-- what the ways meet is what is not closed in the middle -/
theorem met_cl {n : Nat} {a b : Nat → Nat} (ha : Mat n a) (hb : Mat n b) {m : Nat} (hm : m < n) : (∃ o, ¬ pts (mids n) o ∧ Conn (jn n a b) (tau (mids n)) o (n + m)) ↔ ¬ Cl n a b m := by
  have hi := jn_inv ha hb
  have ht := tau_inv (mids_ok ha hb)
  constructor
  · rintro ⟨o, h1, h2⟩ h3
    exact h1 (h3.2 o (h2.symm hi ht))
  · intro h
    refine Classical.byContradiction fun e => h ⟨hm, fun z hz => Classical.byContradiction fun f => e ⟨z, f, hz.symm hi ht⟩⟩
end Go.Proofs.Ytjfkompfkgjdaaa.G
