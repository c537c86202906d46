/- Gluing matchings: pairs of points joined one after another; ways, closed curves, order, names, crossings. Plain. -/
import Derived.Test.YtjfkompfkgjdaaaPCx0
namespace Go.Proofs.Ytjfkompfkgjdaaa.G
def Inv2 (σ : Nat → Nat) : Prop := ∀ x, σ (σ x) = x
theorem Inv2.inj {σ : Nat → Nat} (h : Inv2 σ) {a b : Nat} (e : σ a = σ b) : a = b := by rw [← h a, e, h b]
theorem Inv2.eq_iff {σ : Nat → Nat} (h : Inv2 σ) {a b : Nat} : σ a = b ↔ a = σ b := ⟨fun e => by rw [← e, h a], fun e => by rw [e, h b]⟩
def con (x y : Nat) (σ : Nat → Nat) (z : Nat) : Nat :=
  if z = x ∨ z = y then z else if z = σ x then σ y else if z = σ y then σ x else σ z
def lp (x y : Nat) (σ : Nat → Nat) : Nat := if σ x = y then 1 else 0
def glue : List (Nat × Nat) → (Nat → Nat) → (Nat → Nat) × Nat
  | [], σ => (σ, 0)
  | (x, y) :: l, σ => ((glue l (con x y σ)).1, (glue l (con x y σ)).2 + lp x y σ)
theorem con_inv {σ : Nat → Nat} {x y : Nat} (h : Inv2 σ) (hx : σ x ≠ x) (hy : σ y ≠ y) (hn : x ≠ y) : Inv2 (con x y σ) := by
  intro z
  have hi : ∀ a b, σ a = σ b → a = b := fun a b => h.inj
  have h1 := h x
  have h2 := h y
  have h3 := h z
  unfold con
  grind
theorem con_alive {σ : Nat → Nat} {x y z : Nat} (h : Inv2 σ) (hn : x ≠ y) (zx : z ≠ x) (zy : z ≠ y) (hz : σ z ≠ z) : con x y σ z ≠ z := by
  have hi : ∀ a b, σ a = σ b → a = b := fun a b => h.inj
  have h1 := h x
  have h2 := h y
  have h3 := h z
  unfold con
  grind
theorem con_dead {σ : Nat → Nat} {x y z : Nat} (h : Inv2 σ) (hx : σ x ≠ x) (hy : σ y ≠ y) (hz : σ z = z) : con x y σ z = z := by
  have h1 := h x
  have h2 := h y
  unfold con
  grind
set_option maxHeartbeats 4000000 in
theorem con_comm {σ : Nat → Nat} {x y u v : Nat} (h : Inv2 σ) (hx : σ x ≠ x) (hy : σ y ≠ y) (hu : σ u ≠ u) (hv : σ v ≠ v) (xy : x ≠ y) (uv : u ≠ v) (xu : x ≠ u) (xv : x ≠ v) (yu : y ≠ u) (yv : y ≠ v) (z : Nat) :
    con u v (con x y σ) z = con x y (con u v σ) z := by
  have hi : ∀ a b, σ a = σ b → a = b := fun a b => h.inj
  have h1 := h x
  have h2 := h y
  have h3 := h z
  have h4 := h u
  have h5 := h v
  unfold con
  grind (splits := 40)
theorem lp_comm {σ : Nat → Nat} {x y u v : Nat} (h : Inv2 σ) (hx : σ x ≠ x) (hy : σ y ≠ y) (hu : σ u ≠ u) (hv : σ v ≠ v) (xy : x ≠ y) (uv : u ≠ v) (xu : x ≠ u) (xv : x ≠ v) (yu : y ≠ u) (yv : y ≠ v) :
    lp u v (con x y σ) + lp x y σ = lp x y (con u v σ) + lp u v σ := by
  have hi : ∀ a b, σ a = σ b → a = b := fun a b => h.inj
  have h1 := h x
  have h2 := h y
  have h4 := h u
  have h5 := h v
  unfold lp con
  grind
/-- the partner by a list of pairs -/
def tau : List (Nat × Nat) → Nat → Nat
  | [], z => z
  | (x, y) :: l, z => if z = x then y else if z = y then x else tau l z
/-- a point of the pairs -/
def pts (l : List (Nat × Nat)) (z : Nat) : Prop := ∃ p ∈ l, z = p.1 ∨ z = p.2
/-- the pairs are of different points, all alive -/
def OK (σ : Nat → Nat) : List (Nat × Nat) → Prop
  | [] => True
  | (x, y) :: l => x ≠ y ∧ σ x ≠ x ∧ σ y ≠ y ∧ ¬ pts l x ∧ ¬ pts l y ∧ OK σ l
theorem pts_nil (z : Nat) : ¬ pts [] z := by rintro ⟨p, h, _⟩; simp at h
theorem pts_cons (x y : Nat) (l : List (Nat × Nat)) (z : Nat) : pts ((x, y) :: l) z ↔ z = x ∨ z = y ∨ pts l z := by
  constructor
  · rintro ⟨p, h, e⟩
    rcases List.mem_cons.1 h with rfl | h
    · rcases e with e | e
      · exact .inl e
      · exact .inr (.inl e)
    · exact .inr (.inr ⟨p, h, e⟩)
  · rintro (e | e | ⟨p, h, e⟩)
    · exact ⟨(x, y), List.mem_cons_self, .inl e⟩
    · exact ⟨(x, y), List.mem_cons_self, .inr e⟩
    · exact ⟨p, List.mem_cons_of_mem _ h, e⟩
theorem OK.alive {σ : Nat → Nat} {l : List (Nat × Nat)} (h : OK σ l) {z : Nat} (hz : pts l z) : σ z ≠ z := by
  induction l with
  | nil => exact absurd hz (pts_nil z)
  | cons p l ih =>
    obtain ⟨x, y⟩ := p
    obtain ⟨_, h1, h2, _, _, h3⟩ := h
    rcases (pts_cons _ _ _ _).1 hz with rfl | rfl | hz
    · exact h1
    · exact h2
    · exact ih h3 hz
theorem OK.con {σ : Nat → Nat} (hi : Inv2 σ) {x y : Nat} {l : List (Nat × Nat)} (xy : x ≠ y) (hx : ¬ pts l x) (hy : ¬ pts l y) (h : OK σ l) : OK (con x y σ) l := by
  induction l with
  | nil => trivial
  | cons p l ih =>
    obtain ⟨u, v⟩ := p
    obtain ⟨h0, h1, h2, h3, h4, h5⟩ := h
    simp only [pts_cons, not_or] at hx hy
    exact ⟨h0, con_alive hi xy (Ne.symm hx.1) (Ne.symm hy.1) h1, con_alive hi xy (Ne.symm hx.2.1) (Ne.symm hy.2.1) h2, h3, h4, ih hx.2.2 hy.2.2 h5⟩
theorem tau_fst (x y : Nat) (l : List (Nat × Nat)) : tau ((x, y) :: l) x = y := by simp [tau]
theorem tau_snd {x y : Nat} (l : List (Nat × Nat)) (h : x ≠ y) : tau ((x, y) :: l) y = x := by simp only [tau]; rw [if_neg (Ne.symm h)]; simp
theorem tau_out {σ : Nat → Nat} {l : List (Nat × Nat)} (h : OK σ l) {z : Nat} : tau l z = z ↔ ¬ pts l z := by
  induction l with
  | nil => simp [tau, pts_nil]
  | cons p l ih =>
    obtain ⟨x, y⟩ := p
    obtain ⟨h0, _, _, _, _, h5⟩ := h
    have := ih h5
    simp only [tau, pts_cons]
    grind
theorem tau_pts {σ : Nat → Nat} {l : List (Nat × Nat)} (h : OK σ l) {z : Nat} (hz : pts l z) : pts l (tau l z) := by
  induction l with
  | nil => exact absurd hz (pts_nil z)
  | cons p l ih =>
    obtain ⟨x, y⟩ := p
    obtain ⟨h0, _, _, h3, h4, h5⟩ := h
    have := ih h5
    simp only [tau, pts_cons] at hz ⊢
    grind
theorem tau_inv {σ : Nat → Nat} {l : List (Nat × Nat)} (h : OK σ l) : Inv2 (tau l) := by
  induction l with
  | nil => intro z; rfl
  | cons p l ih =>
    obtain ⟨x, y⟩ := p
    intro z
    obtain ⟨h0, _, _, h3, h4, h5⟩ := h
    have h6 := ih h5 z
    have h7 := @tau_pts _ _ h5 z
    have h8 := @tau_out _ _ h5 z
    simp only [tau]
    grind
/-! ### ways -/
inductive Path (σ : Nat → Nat) (l : List (Nat × Nat)) : Nat → Nat → Prop
  | out (p : Nat) : ¬ pts l (σ p) → Path σ l p (σ p)
  | via (p q : Nat) : pts l (σ p) → Path σ l (tau l (σ p)) q → Path σ l p q
theorem path_con {σ : Nat → Nat} (hi : Inv2 σ) {x y : Nat} {l : List (Nat × Nat)} (h : OK σ ((x, y) :: l)) {p q : Nat} (hp : Path σ ((x, y) :: l) p q) :
    (p ≠ x → p ≠ y → Path (con x y σ) l p q) ∧ (p = y → ∀ r, σ r = x → r ≠ x → r ≠ y → Path (con x y σ) l r q) ∧ (p = x → ∀ r, σ r = y → r ≠ x → r ≠ y → Path (con x y σ) l r q) := by
  have hk := h
  obtain ⟨h0, h1, h2, h3, h4, h5⟩ := h
  have e1 : ∀ r, r ≠ x → r ≠ y → σ r ≠ x → σ r ≠ y → con x y σ r = σ r := fun r a b c d => by
    have := hi r; have := hi x; have := hi y; unfold con; grind
  have e2 : ∀ r, r ≠ x → r ≠ y → σ r = x → con x y σ r = σ y := fun r a b c => by
    have := hi r; have := hi x; have := hi y; unfold con; grind
  have e3 : ∀ r, r ≠ x → r ≠ y → σ r = y → con x y σ r = σ x := fun r a b c => by
    have := hi r; have := hi x; have := hi y; unfold con; grind
  induction hp with
  | out p hn =>
    simp only [pts_cons, not_or] at hn
    refine ⟨fun a b => ?_, fun a r b c d => ?_, fun a r b c d => ?_⟩
    · have := e1 p a b hn.1 hn.2.1
      rw [← this]; exact .out _ (by rw [this]; exact hn.2.2)
    · subst a
      have := e2 r c d b
      rw [← this]; exact .out _ (by rw [this]; exact hn.2.2)
    · subst a
      have := e3 r c d b
      rw [← this]; exact .out _ (by rw [this]; exact hn.2.2)
  | via p q hn hp ih =>
    have inside : ∀ r, r ≠ x → r ≠ y → con x y σ r = σ p → σ p ≠ x → σ p ≠ y → Path (con x y σ) l r q := by
      intro r a b c d e
      have hl : pts l (σ p) := by
        rcases (pts_cons _ _ _ _).1 hn with f | f | f
        · exact absurd f d
        · exact absurd f e
        · exact f
      have ht : tau ((x, y) :: l) (σ p) = tau l (σ p) := by simp only [tau]; rw [if_neg d, if_neg e]
      have hw := tau_pts h5 hl
      rw [ht] at ih
      refine .via _ _ (by rw [c]; exact hl) ?_
      rw [c]
      exact ih.1 (fun f => h3 (f ▸ hw)) (fun f => h4 (f ▸ hw))
    refine ⟨fun a b => ?_, fun a r b c d => ?_, fun a r b c d => ?_⟩
    · by_cases ex : σ p = x
      · exact ih.2.1 (by rw [ex]; simp [tau]) p ex a b
      · by_cases ey : σ p = y
        · exact ih.2.2 (by rw [ey]; simp only [tau]; rw [if_neg (Ne.symm h0)]; simp) p ey a b
        · exact inside p a b (e1 p a b ex ey) ex ey
    · subst a
      refine inside r c d (e2 r c d b) (fun f => ?_) h2
      have := hi r; rw [b, ← f, hi p] at this; exact d this.symm
    · subst a
      refine inside r c d (e3 r c d b) h1 (fun f => ?_)
      have := hi r; rw [b, ← f, hi p] at this; exact c this.symm
theorem path_glue (l : List (Nat × Nat)) : ∀ (σ : Nat → Nat), Inv2 σ → OK σ l → ∀ {p q : Nat}, ¬ pts l p → Path σ l p q → (glue l σ).1 p = q := by
  induction l with
  | nil =>
    intro σ _ _ p q _ hp
    cases hp with
    | out _ _ => rfl
    | via _ _ h _ => exact absurd h (pts_nil _)
  | cons e l ih =>
    obtain ⟨x, y⟩ := e
    intro σ hi h p q hn hp
    simp only [pts_cons, not_or] at hn
    have h' := h
    obtain ⟨h0, h1, h2, h3, h4, h5⟩ := h'
    exact ih _ (con_inv hi h1 h2 h0) (h5.con hi h0 h3 h4) hn.2.2 ((path_con hi h hp).1 hn.1 hn.2.1)
/-! ### components -/
inductive Conn (σ τ : Nat → Nat) (x : Nat) : Nat → Prop
  | refl : Conn σ τ x x
  | s (y : Nat) : Conn σ τ x y → Conn σ τ x (σ y)
  | t (y : Nat) : Conn σ τ x y → Conn σ τ x (τ y)
theorem Conn.trans {σ τ : Nat → Nat} {x y z : Nat} (h : Conn σ τ x y) (k : Conn σ τ y z) : Conn σ τ x z := by
  induction k with
  | refl => exact h
  | s _ _ ih => exact .s _ ih
  | t _ _ ih => exact .t _ ih
theorem Conn.symm {σ τ : Nat → Nat} (hs : Inv2 σ) (ht : Inv2 τ) {x y : Nat} (h : Conn σ τ x y) : Conn σ τ y x := by
  induction h with
  | refl => exact .refl
  | s y _ ih => exact Conn.trans (by have := Conn.s (σ := σ) (τ := τ) (x := σ y) _ .refl; rwa [hs y] at this) ih
  | t y _ ih => exact Conn.trans (by have := Conn.t (σ := σ) (τ := τ) (x := τ y) _ .refl; rwa [ht y] at this) ih
theorem conn_con1 {σ : Nat → Nat} (hi : Inv2 σ) {x y : Nat} {l : List (Nat × Nat)} (h : OK σ ((x, y) :: l)) {u v : Nat} (ux : u ≠ x) (uy : u ≠ y) (hc : Conn (con x y σ) (tau l) u v) : v ≠ x ∧ v ≠ y ∧ Conn σ (tau ((x, y) :: l)) u v := by
  obtain ⟨h0, h1, h2, h3, h4, h5⟩ := h
  induction hc with
  | refl => exact ⟨ux, uy, .refl⟩
  | s v _ ih =>
    obtain ⟨a, b, c⟩ := ih
    have i1 := hi v
    have i2 := hi x
    have i3 := hi y
    have s1 := Conn.s (x := u) _ c
    by_cases e : v = σ x
    · have s2 : Conn σ (tau ((x, y) :: l)) u y := by
        have := Conn.t _ s1; rw [e, i2, tau_fst] at this; exact this
      have : con x y σ v = σ y := by unfold con; grind
      rw [this]; exact ⟨by grind, by grind, .s _ s2⟩
    · by_cases e' : v = σ y
      · have s2 : Conn σ (tau ((x, y) :: l)) u x := by
          have := Conn.t _ s1; rw [e', i3, tau_snd _ h0] at this; exact this
        have : con x y σ v = σ x := by unfold con; grind
        rw [this]; exact ⟨by grind, by grind, .s _ s2⟩
      · have : con x y σ v = σ v := by unfold con; grind
        rw [this]; exact ⟨by grind, by grind, s1⟩
  | t v _ ih =>
    obtain ⟨a, b, c⟩ := ih
    have s1 := Conn.t _ c
    have e : tau ((x, y) :: l) v = tau l v := by simp only [tau]; rw [if_neg a, if_neg b]
    rw [e] at s1
    have k1 := @tau_out _ _ h5 v
    have k2 := @tau_pts _ _ h5 v
    exact ⟨by grind, by grind, s1⟩
theorem conn_con2 {σ : Nat → Nat} (hi : Inv2 σ) {x y : Nat} {l : List (Nat × Nat)} (h : OK σ ((x, y) :: l)) {u v : Nat} (ux : u ≠ x) (uy : u ≠ y) (hc : Conn σ (tau ((x, y) :: l)) u v) : (v ≠ x → v ≠ y → Conn (con x y σ) (tau l) u v) ∧ (v = x ∨ v = y → σ v ≠ x ∧ σ v ≠ y ∧ Conn (con x y σ) (tau l) u (σ v)) := by
  obtain ⟨h0, h1, h2, h3, h4, h5⟩ := h
  have i2 := hi x
  have i3 := hi y
  induction hc with
  | refl => exact ⟨fun _ _ => .refl, fun e => by rcases e with e | e; exact absurd e ux; exact absurd e uy⟩
  | s v _ ih =>
    have i1 := hi v
    by_cases a : v = x ∨ v = y
    · obtain ⟨b, c, d⟩ := ih.2 a
      exact ⟨fun _ _ => d, fun e => by grind⟩
    · have a1 : v ≠ x := fun e => a (.inl e)
      have a2 : v ≠ y := fun e => a (.inr e)
      have d := ih.1 a1 a2
      refine ⟨fun e f => ?_, fun e => by rw [i1]; exact ⟨a1, a2, d⟩⟩
      have := Conn.s _ d
      have g : con x y σ v = σ v := by unfold con; grind
      rwa [g] at this
  | t v _ ih =>
    by_cases a : v = x ∨ v = y
    · obtain ⟨b, c, d⟩ := ih.2 a
      have := Conn.s _ d
      refine ⟨fun e f => ?_, fun e => ?_⟩
      · rcases a with a | a <;> subst a <;> simp only [tau] at e f <;> grind
      · rcases a with a | a
        · subst a
          have g : con v y σ (σ v) = σ y := by unfold con; grind
          have k : tau ((v, y) :: l) v = y := by simp [tau]
          rw [k]; rw [g] at this
          exact ⟨by grind, by grind, this⟩
        · subst a
          have g : con x v σ (σ v) = σ x := by unfold con; grind
          have k : tau ((x, v) :: l) v = x := by simp only [tau]; rw [if_neg (Ne.symm h0)]; simp
          rw [k]; rw [g] at this
          exact ⟨by grind, by grind, this⟩
    · have a1 : v ≠ x := fun e => a (.inl e)
      have a2 : v ≠ y := fun e => a (.inr e)
      have d := Conn.t _ (ih.1 a1 a2)
      have e : tau ((x, y) :: l) v = tau l v := by simp only [tau]; rw [if_neg a1, if_neg a2]
      have k1 := @tau_out _ _ h5 v
      have k2 := @tau_pts _ _ h5 v
      rw [e]
      exact ⟨fun _ _ => d, fun f => by grind⟩
/-! ### how many loops -/
def prs (f g : Nat → Nat) : Nat → List (Nat × Nat)
  | 0 => []
  | k + 1 => (f k, g k) :: prs f g k
theorem pts_prs (f g : Nat → Nat) (k z : Nat) : pts (prs f g k) z ↔ ∃ i, i < k ∧ (z = f i ∨ z = g i) := by
  induction k with
  | zero => simp [prs, pts_nil]
  | succ k ih =>
    simp only [prs, pts_cons, ih]
    constructor
    · rintro (e | e | ⟨i, h, e⟩)
      · exact ⟨k, by omega, .inl e⟩
      · exact ⟨k, by omega, .inr e⟩
      · exact ⟨i, by omega, e⟩
    · rintro ⟨i, h, e⟩
      by_cases c : i = k
      · subst c
        rcases e with e | e
        · exact .inl e
        · exact .inr (.inl e)
      · exact .inr (.inr ⟨i, by omega, e⟩)
open Classical in
/-- how many below k -/
noncomputable def cntP (P : Nat → Prop) : Nat → Nat
  | 0 => 0
  | k + 1 => cntP P k + if P k then 1 else 0
theorem cntP_congr {P Q : Nat → Prop} (k : Nat) (h : ∀ i, i < k → (P i ↔ Q i)) : cntP P k = cntP Q k := by
  induction k with
  | zero => rfl
  | succ k ih =>
    simp only [cntP]
    rw [ih (fun i hi => h i (by omega))]
    have := h k (by omega)
    by_cases c : P k
    · rw [if_pos c, if_pos (this.1 c)]
    · rw [if_neg c, if_neg (fun d => c (this.2 d))]
theorem cntP_le (P : Nat → Prop) (k : Nat) : cntP P k ≤ k := by
  induction k with
  | zero => exact Nat.le_refl _
  | succ k ih => simp only [cntP]; split <;> omega
/-- pair j is the first of its closed curve -/
def Mn (f g : Nat → Nat) (k : Nat) (σ : Nat → Nat) (j : Nat) : Prop := ∀ z, Conn σ (tau (prs f g k)) (f j) z → ∃ i, j ≤ i ∧ i < k ∧ (z = f i ∨ z = g i)
theorem mn_con {f g : Nat → Nat} {k : Nat} {σ : Nat → Nat} (hi : Inv2 σ) (h : OK σ (prs f g (k + 1))) {j : Nat} (hj : j < k) : Mn f g (k + 1) σ j ↔ Mn f g k (con (f k) (g k) σ) j := by
  have h' := h
  obtain ⟨h0, h1, h2, h3, h4, h5⟩ := h'
  have fx : f j ≠ f k := fun e => h3 ((pts_prs _ _ _ _).2 ⟨j, hj, .inl e.symm⟩)
  have fy : f j ≠ g k := fun e => h4 ((pts_prs _ _ _ _).2 ⟨j, hj, .inl e.symm⟩)
  constructor
  · intro m z hz
    obtain ⟨zx, zy, hz⟩ := conn_con1 hi h fx fy hz
    obtain ⟨i, a, b, c⟩ := m z hz
    exact ⟨i, a, by grind, c⟩
  · intro m z hz
    by_cases e : z = f k ∨ z = g k
    · exact ⟨k, by omega, by omega, e⟩
    · obtain ⟨i, a, b, c⟩ := m z ((conn_con2 hi h fx fy hz).1 (fun q => e (.inl q)) (fun q => e (.inr q)))
      exact ⟨i, a, by omega, c⟩
theorem mn_self {f g : Nat → Nat} {k : Nat} {σ : Nat → Nat} (hi : Inv2 σ) (h : OK σ (prs f g (k + 1))) : Mn f g (k + 1) σ k ↔ σ (f k) = g k := by
  obtain ⟨h0, h1, h2, h3, h4, h5⟩ := h
  constructor
  · intro m
    obtain ⟨i, a, b, c⟩ := m _ (.s _ .refl)
    have : i = k := by omega
    subst this
    rcases c with c | c
    · exact absurd c h1
    · exact c
  · intro e z hz
    have e2 : σ (g k) = f k := by rw [← e, hi]
    refine ⟨k, by omega, by omega, ?_⟩
    induction hz with
    | refl => exact .inl rfl
    | s v _ ih => rcases ih with rfl | rfl
                  · exact .inr e
                  · exact .inl e2
    | t v _ ih => rcases ih with rfl | rfl
                  · exact .inr (tau_fst _ _ _)
                  · exact .inl (tau_snd _ h0)
theorem glue_count (f g : Nat → Nat) (k : Nat) : ∀ σ : Nat → Nat, Inv2 σ → OK σ (prs f g k) → (glue (prs f g k) σ).2 = cntP (Mn f g k σ) k := by
  induction k with
  | zero => intro σ _ _; rfl
  | succ k ih =>
    intro σ hi h
    have h' := h
    obtain ⟨h0, h1, h2, h3, h4, h5⟩ := h'
    have e := ih _ (con_inv hi h1 h2 h0) (h5.con hi h0 h3 h4)
    simp only [prs, glue, cntP]
    rw [e, cntP_congr k (fun i hik => (mn_con hi h hik).symm)]
    congr 1
    unfold lp
    by_cases c : σ (f k) = g k
    · rw [if_pos c, if_pos ((mn_self hi h).2 c)]
    · rw [if_neg c, if_neg (fun d => c ((mn_self hi h).1 d))]
/-! ### the order of the pairs -/
theorem glue_perm {l l' : List (Nat × Nat)} (hp : l.Perm l') : ∀ σ : Nat → Nat, Inv2 σ → OK σ l → glue l σ = glue l' σ ∧ OK σ l' := by
  have pp : ∀ {a b : List (Nat × Nat)}, a.Perm b → ∀ z, pts a z ↔ pts b z := fun h z => by
    unfold pts
    constructor
    · rintro ⟨p, m, e⟩; exact ⟨p, h.mem_iff.1 m, e⟩
    · rintro ⟨p, m, e⟩; exact ⟨p, h.mem_iff.2 m, e⟩
  induction hp with
  | nil => intro σ _ h; exact ⟨rfl, h⟩
  | cons p hp ih =>
    intro σ hi h
    obtain ⟨x, y⟩ := p
    obtain ⟨h0, h1, h2, h3, h4, h5⟩ := h
    obtain ⟨e, _⟩ := ih _ (con_inv hi h1 h2 h0) (h5.con hi h0 h3 h4)
    obtain ⟨_, k⟩ := ih σ hi h5
    refine ⟨by simp only [glue]; rw [e], h0, h1, h2, fun d => h3 ((pp hp _).2 d), fun d => h4 ((pp hp _).2 d), k⟩
  | swap p q l =>
    intro σ hi h
    obtain ⟨u, v⟩ := p
    obtain ⟨x, y⟩ := q
    obtain ⟨h0, h1, h2, h3, h4, k0, k1, k2, k3, k4, k5⟩ := h
    simp only [pts_cons, not_or] at h3 h4
    have e1 := lp_comm hi h1 h2 k1 k2 h0 k0 h3.1 h3.2.1 h4.1 h4.2.1
    have e2 : con x y (con u v σ) = con u v (con x y σ) := funext fun z => (con_comm hi h1 h2 k1 k2 h0 k0 h3.1 h3.2.1 h4.1 h4.2.1 z).symm
    refine ⟨?_, k0, k1, k2, ?_, ?_, h0, h1, h2, h3.2.2, h4.2.2, k5⟩
    · simp only [glue]
      rw [e2]
      congr 1
      omega
    · simp only [pts_cons, not_or]; exact ⟨Ne.symm h3.1, Ne.symm h4.1, k3⟩
    · simp only [pts_cons, not_or]; exact ⟨Ne.symm h3.2.1, Ne.symm h4.2.1, k4⟩
  | trans _ _ ih1 ih2 =>
    intro σ hi h
    obtain ⟨e1, k1⟩ := ih1 σ hi h
    obtain ⟨e2, k2⟩ := ih2 σ hi k1
    exact ⟨e1.trans e2, k2⟩
theorem glue_app (l l' : List (Nat × Nat)) : ∀ σ : Nat → Nat, glue (l ++ l') σ = ((glue l' (glue l σ).1).1, (glue l' (glue l σ).1).2 + (glue l σ).2) := by
  induction l with
  | nil => intro σ; simp [glue]
  | cons p l ih =>
    obtain ⟨x, y⟩ := p
    intro σ
    simp only [List.cons_append, glue, ih]
    congr 1
    omega
theorem glue_inv (l : List (Nat × Nat)) : ∀ σ : Nat → Nat, Inv2 σ → OK σ l → Inv2 (glue l σ).1 := by
  induction l with
  | nil => intro σ h _; exact h
  | cons p l ih =>
    obtain ⟨x, y⟩ := p
    intro σ hi h
    obtain ⟨h0, h1, h2, h3, h4, h5⟩ := h
    exact ih _ (con_inv hi h1 h2 h0) (h5.con hi h0 h3 h4)
theorem glue_alive (l : List (Nat × Nat)) : ∀ σ : Nat → Nat, Inv2 σ → OK σ l → ∀ z, ¬ pts l z → σ z ≠ z → (glue l σ).1 z ≠ z := by
  induction l with
  | nil => intro σ _ _ z _ h; exact h
  | cons p l ih =>
    obtain ⟨x, y⟩ := p
    intro σ hi h z hz hs
    obtain ⟨h0, h1, h2, h3, h4, h5⟩ := h
    simp only [pts_cons, not_or] at hz
    exact ih _ (con_inv hi h1 h2 h0) (h5.con hi h0 h3 h4) z hz.2.2 (con_alive hi h0 hz.1 hz.2.1 hs)
theorem con_dead2 {σ : Nat → Nat} {x y z : Nat} (hz : z = x ∨ z = y) : con x y σ z = z := by unfold con; rw [if_pos hz]
theorem glue_dead (l : List (Nat × Nat)) : ∀ σ : Nat → Nat, Inv2 σ → OK σ l → ∀ z, pts l z ∨ σ z = z → (glue l σ).1 z = z := by
  induction l with
  | nil => intro σ _ _ z h; exact h.resolve_left (pts_nil z)
  | cons p l ih =>
    obtain ⟨x, y⟩ := p
    intro σ hi h z hz
    obtain ⟨h0, h1, h2, h3, h4, h5⟩ := h
    refine ih _ (con_inv hi h1 h2 h0) (h5.con hi h0 h3 h4) z ?_
    rcases hz with hz | hz
    · rcases (pts_cons _ _ _ _).1 hz with e | e | e
      · exact .inr (con_dead2 (.inl e))
      · exact .inr (con_dead2 (.inr e))
      · exact .inl e
    · exact .inr (con_dead hi h1 h2 hz)
/-! ### other names -/
/-- σ does with the new names what a does with the old ones below N -/
def Emb (N : Nat) (F a σ : Nat → Nat) : Prop := ∀ z, z < N → a z < N ∧ σ (F z) = F (a z)
theorem con_emb {N : Nat} {F a σ : Nat → Nat} (hF : ∀ u v, u < N → v < N → F u = F v → u = v) (h : Emb N F a σ) {x y : Nat} (hx : x < N) (hy : y < N) : Emb N F (con x y a) (con (F x) (F y) σ) ∧ lp (F x) (F y) σ = lp x y a := by
  have i : ∀ u v, u < N → v < N → (F u = F v ↔ u = v) := fun u v hu hv => ⟨hF u v hu hv, fun e => by rw [e]⟩
  have hxx := h x hx
  have hyy := h y hy
  constructor
  · intro z hz
    have hzz := h z hz
    unfold con
    rw [hxx.2, hyy.2, hzz.2]
    simp only [i z x hz hx, i z y hz hy, i z (a x) hz hxx.1, i z (a y) hz hyy.1]
    grind
  · unfold lp
    rw [hxx.2]
    simp only [i _ y hxx.1 hy]
theorem con_off {σ : Nat → Nat} {x y z : Nat} (h1 : z ≠ x) (h2 : z ≠ y) (h3 : z ≠ σ x) (h4 : z ≠ σ y) : con x y σ z = σ z := by unfold con; grind
theorem glue_emb {N : Nat} {F : Nat → Nat} (hF : ∀ u v, u < N → v < N → F u = F v → u = v) (l : List (Nat × Nat)) : ∀ {a σ : Nat → Nat}, Emb N F a σ → (∀ p ∈ l, p.1 < N ∧ p.2 < N) → Emb N F (glue l a).1 (glue (l.map (fun p => (F p.1, F p.2))) σ).1 ∧ (glue (l.map (fun p => (F p.1, F p.2))) σ).2 = (glue l a).2 := by
  induction l with
  | nil => intro a σ h _; exact ⟨h, rfl⟩
  | cons p l ih =>
    obtain ⟨x, y⟩ := p
    intro a σ h hl
    have hxy := hl (x, y) List.mem_cons_self
    obtain ⟨h1, h2⟩ := con_emb hF h hxy.1 hxy.2
    obtain ⟨h3, h4⟩ := ih h1 (fun p hp => hl p (List.mem_cons_of_mem _ hp))
    simp only [List.map_cons, glue]
    exact ⟨h3, by rw [h4, h2]⟩
/-- what lies apart stays as it is -/
theorem glue_off (D : Nat → Prop) (l : List (Nat × Nat)) : ∀ {σ : Nat → Nat}, (∀ z, D z → D (σ z)) → Inv2 σ → OK σ l → (∀ p ∈ l, ¬ D p.1 ∧ ¬ D p.2) → ∀ z, D z → (glue l σ).1 z = σ z := by
  induction l with
  | nil => intro σ _ _ _ _ z _; rfl
  | cons p l ih =>
    obtain ⟨x, y⟩ := p
    intro σ hD hi h hl z hz
    obtain ⟨h0, h1, h2, h3, h4, h5⟩ := h
    have hxy := hl (x, y) List.mem_cons_self
    have e : ∀ z, D z → con x y σ z = σ z := fun z hz => by
      refine con_off (fun e => hxy.1 (e ▸ hz)) (fun e => hxy.2 (e ▸ hz)) (fun e => hxy.1 ?_) (fun e => hxy.2 ?_)
      · have := hD z hz; rw [e, hi] at this; exact this
      · have := hD z hz; rw [e, hi] at this; exact this
    simp only [glue]
    rw [ih (fun z hz => by rw [e z hz]; exact hD z hz) (con_inv hi h1 h2 h0) (h5.con hi h0 h3 h4) (fun p hp => hl p (List.mem_cons_of_mem _ hp)) z hz, e z hz]
theorem con_swap {σ : Nat → Nat} (x y : Nat) (hi : Inv2 σ) (xy : x ≠ y) : con x y σ = con y x σ ∧ lp x y σ = lp y x σ := by
  have h1 := hi x
  have h2 := hi y
  have hj : ∀ a b, σ a = σ b → a = b := fun a b => hi.inj
  constructor
  · funext z; unfold con; grind
  · unfold lp; grind
/-! ### without crossings -/
/-- do the pairs u v and p q cross, on a line -/
def crs (ps : Nat → Nat) (u v p q : Nat) : Bool := (decide (ps p < ps u) ^^ decide (ps q < ps u)) ^^ (decide (ps p < ps v) ^^ decide (ps q < ps v))
def NC (ps σ : Nat → Nat) : Prop := ∀ u p, σ u ≠ u → σ p ≠ p → p ≠ u → p ≠ σ u → crs ps u (σ u) p (σ p) = false
theorem crs_swap (ps : Nat → Nat) (u v p q : Nat) (h1 : ps u ≠ ps p) (h2 : ps u ≠ ps q) (h3 : ps v ≠ ps p) (h4 : ps v ≠ ps q) : crs ps u v p q = crs ps p q u v := by
  have e : ∀ a b, ps a ≠ ps b → decide (ps b < ps a) = !decide (ps a < ps b) := fun a b h => by
    by_cases c : ps a < ps b
    · rw [decide_eq_true c, decide_eq_false (by omega)]; rfl
    · rw [decide_eq_false c, decide_eq_true (by omega)]; rfl
  unfold crs
  rw [e u p h1, e u q h2, e v p h3, e v q h4]
  cases decide (ps u < ps p) <;> cases decide (ps u < ps q) <;> cases decide (ps v < ps p) <;> cases decide (ps v < ps q) <;> rfl
theorem xor6 : ∀ y1 x1 z1 y2 x2 z2 : Bool, ((y1 ^^ x1) ^^ (y2 ^^ x2)) = false → ((y1 ^^ z1) ^^ (y2 ^^ z2)) = false → ((x1 ^^ z1) ^^ (x2 ^^ z2)) = false := by decide
theorem xor4 : ∀ x1 z1 x2 z2 : Bool, ((x1 ^^ z1) ^^ (x2 ^^ z2)) = false → ((z1 ^^ x1) ^^ (z2 ^^ x2)) = false := by decide
theorem con_nc {ps σ : Nat → Nat} {x y : Nat} (hi : Inv2 σ) (hx : σ x ≠ x) (hy : σ y ≠ y) (xy : x ≠ y) (hps : ∀ u v, σ u ≠ u → σ v ≠ v → ps u = ps v → u = v) (h : NC ps σ) (ha : ∀ z, σ z ≠ z → z ≠ x → z ≠ y → (ps x < ps z ↔ ps y < ps z)) : NC ps (con x y σ) := by
  have i1 := hi x
  have i2 := hi y
  have hj : ∀ a b, σ a = σ b → a = b := fun a b => hi.inj
  have key : ∀ u, σ u ≠ u → u ≠ x → u ≠ y → σ u ≠ x → σ u ≠ y → σ x ≠ y → crs ps u (σ u) (σ x) (σ y) = false := by
    intro u hu ux uy vx vy xy'
    have a1 := ha u hu ux uy
    have a2 := ha (σ u) (by rw [hi u]; exact Ne.symm hu) vx vy
    have n1 := h u x hu hx (Ne.symm ux) (Ne.symm vx)
    have n2 := h u y hu hy (Ne.symm uy) (Ne.symm vy)
    unfold crs at n1 n2 ⊢
    rw [decide_eq_decide.2 a1, decide_eq_decide.2 a2] at n1
    exact xor6 _ _ _ _ _ _ n1 n2
  have key2 : ∀ u, σ u ≠ u → u ≠ x → u ≠ y → σ u ≠ x → σ u ≠ y → σ x ≠ y → crs ps u (σ u) (σ y) (σ x) = false := by
    intro u a b c d e f
    have := key u a b c d e f
    unfold crs at this ⊢
    exact xor4 _ _ _ _ this
  have sw : ∀ u p q, σ u ≠ u → σ p ≠ p → σ q ≠ q → u ≠ p → u ≠ q → σ u ≠ p → σ u ≠ q → crs ps u (σ u) p q = false → crs ps p q u (σ u) = false := by
    intro u p q hu hp hq a b c d e
    have hu' : σ (σ u) ≠ σ u := by rw [hi u]; exact Ne.symm hu
    rw [← crs_swap ps u (σ u) p q (fun f => a (hps _ _ hu hp f)) (fun f => b (hps _ _ hu hq f)) (fun f => c (hps _ _ hu' hp f)) (fun f => d (hps _ _ hu' hq f))]
    exact e
  intro u p hu hp pu pv
  have hsx : σ (σ x) ≠ σ x := by rw [i1]; exact Ne.symm hx
  have hsy : σ (σ y) ≠ σ y := by rw [i2]; exact Ne.symm hy
  have dead : ∀ z, con x y σ z ≠ z → z ≠ x ∧ z ≠ y ∧ σ z ≠ z := by
    intro z hz; unfold con at hz; grind
  obtain ⟨ux, uy, hu'⟩ := dead u hu
  obtain ⟨px, py, hp'⟩ := dead p hp
  have val : ∀ z, z ≠ x → z ≠ y → (z = σ x ∧ con x y σ z = σ y) ∨ (z = σ y ∧ z ≠ σ x ∧ con x y σ z = σ x) ∨ (z ≠ σ x ∧ z ≠ σ y ∧ con x y σ z = σ z) := by
    intro z a b; unfold con; grind
  have iu := hi u
  have ip := hi p
  rcases val u ux uy with ⟨eu, cu⟩ | ⟨eu, eu2, cu⟩ | ⟨eu, eu2, cu⟩
  · rcases val p px py with ⟨ep, cp⟩ | ⟨ep, ep2, cp⟩ | ⟨ep, ep2, cp⟩
    · exact absurd (ep.trans eu.symm) pu
    · exact absurd (ep.trans cu.symm) pv
    · rw [cu, cp, eu]
      refine sw p (σ x) (σ y) hp' hsx hsy ep ep2 (fun e => ?_) (fun e => ?_) (key p hp' px py (fun e => ?_) (fun e => ?_) (fun e => ?_)) <;> grind
  · rcases val p px py with ⟨ep, cp⟩ | ⟨ep, ep2, cp⟩ | ⟨ep, ep2, cp⟩
    · exact absurd (ep.trans cu.symm) pv
    · exact absurd (ep.trans eu.symm) pu
    · rw [cu, cp, eu]
      refine sw p (σ y) (σ x) hp' hsy hsx ep2 ep (fun e => ?_) (fun e => ?_) (key2 p hp' px py (fun e => ?_) (fun e => ?_) (fun e => ?_)) <;> grind
  · rcases val p px py with ⟨ep, cp⟩ | ⟨ep, ep2, cp⟩ | ⟨ep, ep2, cp⟩
    · rw [cu, cp, ep]
      refine key u hu' ux uy (fun e => ?_) (fun e => ?_) (fun e => ?_) <;> grind
    · rw [cu, cp, ep]
      refine key2 u hu' ux uy (fun e => ?_) (fun e => ?_) (fun e => ?_) <;> grind
    · rw [cu, cp]
      rw [cu] at pv
      exact h u p hu' hp' pu pv
/-- each pair lies next to each other, when its turn comes -/
def Adjs (ps : Nat → Nat) : List (Nat × Nat) → (Nat → Nat) → Prop
  | [], _ => True
  | (x, y) :: l, σ => (∀ z, σ z ≠ z → z ≠ x → z ≠ y → (ps x < ps z ↔ ps y < ps z)) ∧ Adjs ps l (con x y σ)
theorem glue_nc {ps : Nat → Nat} (l : List (Nat × Nat)) : ∀ {σ : Nat → Nat}, Inv2 σ → OK σ l → (∀ u v, σ u ≠ u → σ v ≠ v → ps u = ps v → u = v) → NC ps σ → Adjs ps l σ → NC ps (glue l σ).1 := by
  induction l with
  | nil => intro σ _ _ _ h _; exact h
  | cons p l ih =>
    obtain ⟨x, y⟩ := p
    intro σ hi h hps hn ha
    obtain ⟨h0, h1, h2, h3, h4, h5⟩ := h
    have dead : ∀ z, con x y σ z ≠ z → σ z ≠ z := by
      intro z hz e; exact hz (con_dead hi h1 h2 e)
    exact ih (con_inv hi h1 h2 h0) (h5.con hi h0 h3 h4) (fun u v a b => hps u v (dead u a) (dead v b)) (con_nc hi h1 h2 h0 hps hn ha.1) ha.2
/-! ### the pigeon-hole -/
theorem pigeon : ∀ (n : Nat) (f : Nat → Nat), (∀ i, i ≤ n → f i < n) → ∃ i j, i < j ∧ j ≤ n ∧ f i = f j := by
  intro n
  induction n with
  | zero => intro f h; have := h 0 (Nat.le_refl _); omega
  | succ n ih =>
    intro f h
    by_cases c : ∃ i, i ≤ n ∧ f i = f (n + 1)
    · obtain ⟨i, a, b⟩ := c; exact ⟨i, n + 1, by omega, Nat.le_refl _, b⟩
    · obtain ⟨i, j, a, b, e⟩ := ih (fun i => if f i = n then f (n + 1) else f i) (fun i hi => by
        have h1 := h i (by omega)
        have h2 := h (n + 1) (Nat.le_refl _)
        show (if f i = n then f (n + 1) else f i) < n
        by_cases d : f i = n
        · rw [if_pos d]
          have : f (n + 1) ≠ n := fun e => c ⟨i, hi, by rw [d, e]⟩
          omega
        · rw [if_neg d]; omega)
      refine ⟨i, j, a, by omega, ?_⟩
      have e : (if f i = n then f (n + 1) else f i) = if f j = n then f (n + 1) else f j := e
      by_cases d1 : f i = n <;> by_cases d2 : f j = n
      · rw [d1, d2]
      · rw [if_pos d1, if_neg d2] at e; exact absurd ⟨j, b, e.symm⟩ c
      · rw [if_neg d1, if_pos d2] at e; exact absurd ⟨i, by omega, e⟩ c
      · rw [if_neg d1, if_neg d2] at e; exact e
/-- the same number of times -/
def itr (f : Nat → Nat) : Nat → Nat → Nat
  | 0, z => z
  | k + 1, z => itr f k (f z)
theorem itr_succ (f : Nat → Nat) (k : Nat) : ∀ z, itr f (k + 1) z = f (itr f k z) := by
  induction k with
  | zero => intro z; rfl
  | succ k ih => intro z; rw [itr, ih (f z)]; rfl
theorem itr_add (f : Nat → Nat) (a b z : Nat) : itr f (a + b) z = itr f a (itr f b z) := by
  induction a with
  | zero => simp [itr]
  | succ a ih => rw [Nat.succ_add, itr_succ, itr_succ, ih]
/-- a walk that begins outside of a set of N points, by steps that lead no two points to one, does not stay in it -/
theorem leaves {f : Nat → Nat} (hf : ∀ a b, f a = f b → a = b) (S : Nat → Prop) (c : Nat → Nat) (N : Nat) (hc : ∀ z, S z → c z < N) (hci : ∀ u v, S u → S v → c u = c v → u = v) (p : Nat) (hp : ¬ S p) : ∃ k, k ≤ N ∧ ¬ S (itr f (k + 1) p) ∧ ∀ i, i < k → S (itr f (i + 1) p) := by
  have h : ∃ k, k ≤ N ∧ ¬ S (itr f (k + 1) p) := by
    refine Classical.byContradiction fun hn => ?_
    have hS : ∀ i, i ≤ N → S (itr f (i + 1) p) := fun i hi => Classical.byContradiction fun h => hn ⟨i, hi, h⟩
    obtain ⟨i, j, a, b, e⟩ := pigeon N (fun i => c (itr f (i + 1) p)) (fun i hi => hc _ (hS i hi))
    have e := hci _ _ (hS i (by omega)) (hS j b) e
    have back : ∀ k, itr f k p = itr f (j - i + k) p → p = itr f (j - i) p := by
      intro k
      induction k with
      | zero => intro h; exact h
      | succ k ih => intro h; rw [itr_succ, show j - i + (k + 1) = (j - i + k) + 1 by omega, itr_succ] at h; exact ih (hf _ _ h)
    have e2 := back (i + 1) (by rw [show j - i + (i + 1) = j + 1 by omega]; exact e)
    refine hp ?_
    rw [e2]
    have := hS (j - i - 1) (by omega)
    rwa [show j - i - 1 + 1 = j - i by omega] at this
  obtain ⟨k, h1, h2⟩ := h
  clear hc hci hf
  induction k using Nat.strongRecOn with
  | ind k ih =>
    by_cases c2 : ∃ i, i < k ∧ ¬ S (itr f (i + 1) p)
    · obtain ⟨i, a, b⟩ := c2; exact ih i a (by omega) b
    · exact ⟨k, h1, h2, fun i hi => Classical.byContradiction fun h => c2 ⟨i, hi, h⟩⟩
end Go.Proofs.Ytjfkompfkgjdaaa.G
