/- Parts of the proof of LawPlaitTurns, one behind the other: MGlue MOrb MJoin LProd PCg6 LPart LLoop MPile LDia LSelf PCf28 LIdent MAssoc MPlan LAssoc MTrace LTrace MTurn LTurned PurePlaitTurns LawPlaitTurns. -/
import Derived.Test.YtjfkompfkgjdaaaRows
import Derived.WalkKit
import Derived.ProofKit
import Derived.OpenShut
import Derived.ShutString
import Derived.ChangeOld
import Derived.Below
import Derived.SizedLaws
import Derived.Test.YtjfkompfkgjdaaaJPlaitTurns4
section
/- Gluing matchings: pairs of points joined one after another; ways, closed curves, order, names, crossings. Plain. -/
namespace Go.Proofs.Ytjfkompfkgjdaaa.G
def Inv2 (σ : Nat → Nat) : Prop := ∀ x, σ (σ x) = x
theorem Inv2.inj {σ : Nat → Nat} (h : Inv2 σ) {a b : Nat} (e : σ a = σ b) : a = b := by rw [← h a, e, h b]
def con (x y : Nat) (σ : Nat → Nat) (z : Nat) : Nat :=
  if z = x ∨ z = y then z else if z = σ x then σ y else if z = σ y then σ x else σ z
def lp (x y : Nat) (σ : Nat → Nat) : Nat := if σ x = y then 1 else 0
def glue : List (Nat × Nat) → (Nat → Nat) → (Nat → Nat) × Nat
  | [], σ => (σ, 0)
  | (x, y) :: l, σ => ((glue l (con x y σ)).1, (glue l (con x y σ)).2 + lp x y σ)
theorem con_inv {σ : Nat → Nat} {x y : Nat} (h : Inv2 σ) (hx : σ x ≠ x) (hy : σ y ≠ y) (hn : x ≠ y) : Inv2 (con x y σ) := by
  intro z
  have hi : ∀ a b, σ a = σ b → a = b := fun a b => h.inj
  have h1 := h x
  have h2 := h y
  have h3 := h z
  unfold con
  grind
theorem con_alive {σ : Nat → Nat} {x y z : Nat} (h : Inv2 σ) (hn : x ≠ y) (zx : z ≠ x) (zy : z ≠ y) (hz : σ z ≠ z) : con x y σ z ≠ z := by
  have hi : ∀ a b, σ a = σ b → a = b := fun a b => h.inj
  have h1 := h x
  have h2 := h y
  have h3 := h z
  unfold con
  grind
theorem con_dead {σ : Nat → Nat} {x y z : Nat} (h : Inv2 σ) (hx : σ x ≠ x) (hy : σ y ≠ y) (hz : σ z = z) : con x y σ z = z := by
  have h1 := h x
  have h2 := h y
  unfold con
  grind
set_option maxHeartbeats 4000000 in
theorem con_comm {σ : Nat → Nat} {x y u v : Nat} (h : Inv2 σ) (hx : σ x ≠ x) (hy : σ y ≠ y) (hu : σ u ≠ u) (hv : σ v ≠ v) (xy : x ≠ y) (uv : u ≠ v) (xu : x ≠ u) (xv : x ≠ v) (yu : y ≠ u) (yv : y ≠ v) (z : Nat) :
    con u v (con x y σ) z = con x y (con u v σ) z := by
  have hi : ∀ a b, σ a = σ b → a = b := fun a b => h.inj
  have h1 := h x
  have h2 := h y
  have h3 := h z
  have h4 := h u
  have h5 := h v
  unfold con
  grind (splits := 40)
theorem lp_comm {σ : Nat → Nat} {x y u v : Nat} (h : Inv2 σ) (hx : σ x ≠ x) (hy : σ y ≠ y) (hu : σ u ≠ u) (hv : σ v ≠ v) (xy : x ≠ y) (uv : u ≠ v) (xu : x ≠ u) (xv : x ≠ v) (yu : y ≠ u) (yv : y ≠ v) :
    lp u v (con x y σ) + lp x y σ = lp x y (con u v σ) + lp u v σ := by
  have hi : ∀ a b, σ a = σ b → a = b := fun a b => h.inj
  have h1 := h x
  have h2 := h y
  have h4 := h u
  have h5 := h v
  unfold lp con
  grind
/-- the partner by a list of pairs -/
def tau : List (Nat × Nat) → Nat → Nat
  | [], z => z
  | (x, y) :: l, z => if z = x then y else if z = y then x else tau l z
/-- a point of the pairs -/
def pts (l : List (Nat × Nat)) (z : Nat) : Prop := ∃ p ∈ l, z = p.1 ∨ z = p.2
/-- the pairs are of different points, all alive -/
def OK (σ : Nat → Nat) : List (Nat × Nat) → Prop
  | [] => True
  | (x, y) :: l => x ≠ y ∧ σ x ≠ x ∧ σ y ≠ y ∧ ¬ pts l x ∧ ¬ pts l y ∧ OK σ l
theorem pts_nil (z : Nat) : ¬ pts [] z := by rintro ⟨p, h, _⟩; simp at h
theorem pts_cons (x y : Nat) (l : List (Nat × Nat)) (z : Nat) : pts ((x, y) :: l) z ↔ z = x ∨ z = y ∨ pts l z := by
  constructor
  · rintro ⟨p, h, e⟩
    rcases List.mem_cons.1 h with rfl | h
    · rcases e with e | e
      · exact .inl e
      · exact .inr (.inl e)
    · exact .inr (.inr ⟨p, h, e⟩)
  · rintro (e | e | ⟨p, h, e⟩)
    · exact ⟨(x, y), List.mem_cons_self, .inl e⟩
    · exact ⟨(x, y), List.mem_cons_self, .inr e⟩
    · exact ⟨p, List.mem_cons_of_mem _ h, e⟩
theorem OK.alive {σ : Nat → Nat} {l : List (Nat × Nat)} (h : OK σ l) {z : Nat} (hz : pts l z) : σ z ≠ z := by
  induction l with
  | nil => exact absurd hz (pts_nil z)
  | cons p l ih =>
    obtain ⟨x, y⟩ := p
    obtain ⟨_, h1, h2, _, _, h3⟩ := h
    rcases (pts_cons _ _ _ _).1 hz with rfl | rfl | hz
    · exact h1
    · exact h2
    · exact ih h3 hz
theorem OK.con {σ : Nat → Nat} (hi : Inv2 σ) {x y : Nat} {l : List (Nat × Nat)} (xy : x ≠ y) (hx : ¬ pts l x) (hy : ¬ pts l y) (h : OK σ l) : OK (con x y σ) l := by
  induction l with
  | nil => trivial
  | cons p l ih =>
    obtain ⟨u, v⟩ := p
    obtain ⟨h0, h1, h2, h3, h4, h5⟩ := h
    simp only [pts_cons, not_or] at hx hy
    exact ⟨h0, con_alive hi xy (Ne.symm hx.1) (Ne.symm hy.1) h1, con_alive hi xy (Ne.symm hx.2.1) (Ne.symm hy.2.1) h2, h3, h4, ih hx.2.2 hy.2.2 h5⟩
theorem tau_fst (x y : Nat) (l : List (Nat × Nat)) : tau ((x, y) :: l) x = y := by simp [tau]
theorem tau_snd {x y : Nat} (l : List (Nat × Nat)) (h : x ≠ y) : tau ((x, y) :: l) y = x := by simp only [tau]; rw [if_neg (Ne.symm h)]; simp
theorem tau_out {σ : Nat → Nat} {l : List (Nat × Nat)} (h : OK σ l) {z : Nat} : tau l z = z ↔ ¬ pts l z := by
  induction l with
  | nil => simp [tau, pts_nil]
  | cons p l ih =>
    obtain ⟨x, y⟩ := p
    obtain ⟨h0, _, _, _, _, h5⟩ := h
    have := ih h5
    simp only [tau, pts_cons]
    grind
theorem tau_pts {σ : Nat → Nat} {l : List (Nat × Nat)} (h : OK σ l) {z : Nat} (hz : pts l z) : pts l (tau l z) := by
  induction l with
  | nil => exact absurd hz (pts_nil z)
  | cons p l ih =>
    obtain ⟨x, y⟩ := p
    obtain ⟨h0, _, _, h3, h4, h5⟩ := h
    have := ih h5
    simp only [tau, pts_cons] at hz ⊢
    grind
theorem tau_inv {σ : Nat → Nat} {l : List (Nat × Nat)} (h : OK σ l) : Inv2 (tau l) := by
  induction l with
  | nil => intro z; rfl
  | cons p l ih =>
    obtain ⟨x, y⟩ := p
    intro z
    obtain ⟨h0, _, _, h3, h4, h5⟩ := h
    have h6 := ih h5 z
    have h7 := @tau_pts _ _ h5 z
    have h8 := @tau_out _ _ h5 z
    simp only [tau]
    grind
/-! ### ways -/
inductive Path (σ : Nat → Nat) (l : List (Nat × Nat)) : Nat → Nat → Prop
  | out (p : Nat) : ¬ pts l (σ p) → Path σ l p (σ p)
  | via (p q : Nat) : pts l (σ p) → Path σ l (tau l (σ p)) q → Path σ l p q
/-! ### components -/
inductive Conn (σ τ : Nat → Nat) (x : Nat) : Nat → Prop
  | refl : Conn σ τ x x
  | s (y : Nat) : Conn σ τ x y → Conn σ τ x (σ y)
  | t (y : Nat) : Conn σ τ x y → Conn σ τ x (τ y)
theorem Conn.trans {σ τ : Nat → Nat} {x y z : Nat} (h : Conn σ τ x y) (k : Conn σ τ y z) : Conn σ τ x z := by
  induction k with
  | refl => exact h
  | s _ _ ih => exact .s _ ih
  | t _ _ ih => exact .t _ ih
theorem Conn.symm {σ τ : Nat → Nat} (hs : Inv2 σ) (ht : Inv2 τ) {x y : Nat} (h : Conn σ τ x y) : Conn σ τ y x := by
  induction h with
  | refl => exact .refl
  | s y _ ih => exact Conn.trans (by have := Conn.s (σ := σ) (τ := τ) (x := σ y) _ .refl; rwa [hs y] at this) ih
  | t y _ ih => exact Conn.trans (by have := Conn.t (σ := σ) (τ := τ) (x := τ y) _ .refl; rwa [ht y] at this) ih
theorem conn_con1 {σ : Nat → Nat} (hi : Inv2 σ) {x y : Nat} {l : List (Nat × Nat)} (h : OK σ ((x, y) :: l)) {u v : Nat} (ux : u ≠ x) (uy : u ≠ y) (hc : Conn (con x y σ) (tau l) u v) : v ≠ x ∧ v ≠ y ∧ Conn σ (tau ((x, y) :: l)) u v := by
  obtain ⟨h0, h1, h2, h3, h4, h5⟩ := h
  induction hc with
  | refl => exact ⟨ux, uy, .refl⟩
  | s v _ ih =>
    obtain ⟨a, b, c⟩ := ih
    have i1 := hi v
    have i2 := hi x
    have i3 := hi y
    have s1 := Conn.s (x := u) _ c
    by_cases e : v = σ x
    · have s2 : Conn σ (tau ((x, y) :: l)) u y := by
        have := Conn.t _ s1; rw [e, i2, tau_fst] at this; exact this
      have : con x y σ v = σ y := by unfold con; grind
      rw [this]; exact ⟨by grind, by grind, .s _ s2⟩
    · by_cases e' : v = σ y
      · have s2 : Conn σ (tau ((x, y) :: l)) u x := by
          have := Conn.t _ s1; rw [e', i3, tau_snd _ h0] at this; exact this
        have : con x y σ v = σ x := by unfold con; grind
        rw [this]; exact ⟨by grind, by grind, .s _ s2⟩
      · have : con x y σ v = σ v := by unfold con; grind
        rw [this]; exact ⟨by grind, by grind, s1⟩
  | t v _ ih =>
    obtain ⟨a, b, c⟩ := ih
    have s1 := Conn.t _ c
    have e : tau ((x, y) :: l) v = tau l v := by simp only [tau]; rw [if_neg a, if_neg b]
    rw [e] at s1
    have k1 := @tau_out _ _ h5 v
    have k2 := @tau_pts _ _ h5 v
    exact ⟨by grind, by grind, s1⟩
theorem conn_con2 {σ : Nat → Nat} (hi : Inv2 σ) {x y : Nat} {l : List (Nat × Nat)} (h : OK σ ((x, y) :: l)) {u v : Nat} (ux : u ≠ x) (uy : u ≠ y) (hc : Conn σ (tau ((x, y) :: l)) u v) : (v ≠ x → v ≠ y → Conn (con x y σ) (tau l) u v) ∧ (v = x ∨ v = y → σ v ≠ x ∧ σ v ≠ y ∧ Conn (con x y σ) (tau l) u (σ v)) := by
  obtain ⟨h0, h1, h2, h3, h4, h5⟩ := h
  have i2 := hi x
  have i3 := hi y
  induction hc with
  | refl => exact ⟨fun _ _ => .refl, fun e => by rcases e with e | e; exact absurd e ux; exact absurd e uy⟩
  | s v _ ih =>
    have i1 := hi v
    by_cases a : v = x ∨ v = y
    · obtain ⟨b, c, d⟩ := ih.2 a
      exact ⟨fun _ _ => d, fun e => by grind⟩
    · have a1 : v ≠ x := fun e => a (.inl e)
      have a2 : v ≠ y := fun e => a (.inr e)
      have d := ih.1 a1 a2
      refine ⟨fun e f => ?_, fun e => by rw [i1]; exact ⟨a1, a2, d⟩⟩
      have := Conn.s _ d
      have g : con x y σ v = σ v := by unfold con; grind
      rwa [g] at this
  | t v _ ih =>
    by_cases a : v = x ∨ v = y
    · obtain ⟨b, c, d⟩ := ih.2 a
      have := Conn.s _ d
      refine ⟨fun e f => ?_, fun e => ?_⟩
      · rcases a with a | a <;> subst a <;> simp only [tau] at e f <;> grind
      · rcases a with a | a
        · subst a
          have g : con v y σ (σ v) = σ y := by unfold con; grind
          have k : tau ((v, y) :: l) v = y := by simp [tau]
          rw [k]; rw [g] at this
          exact ⟨by grind, by grind, this⟩
        · subst a
          have g : con x v σ (σ v) = σ x := by unfold con; grind
          have k : tau ((x, v) :: l) v = x := by simp only [tau]; rw [if_neg (Ne.symm h0)]; simp
          rw [k]; rw [g] at this
          exact ⟨by grind, by grind, this⟩
    · have a1 : v ≠ x := fun e => a (.inl e)
      have a2 : v ≠ y := fun e => a (.inr e)
      have d := Conn.t _ (ih.1 a1 a2)
      have e : tau ((x, y) :: l) v = tau l v := by simp only [tau]; rw [if_neg a1, if_neg a2]
      have k1 := @tau_out _ _ h5 v
      have k2 := @tau_pts _ _ h5 v
      rw [e]
      exact ⟨fun _ _ => d, fun f => by grind⟩
/-! ### how many loops -/
def prs (f g : Nat → Nat) : Nat → List (Nat × Nat)
  | 0 => []
  | k + 1 => (f k, g k) :: prs f g k
theorem pts_prs (f g : Nat → Nat) (k z : Nat) : pts (prs f g k) z ↔ ∃ i, i < k ∧ (z = f i ∨ z = g i) := by
  induction k with
  | zero => simp [prs, pts_nil]
  | succ k ih =>
    simp only [prs, pts_cons, ih]
    constructor
    · rintro (e | e | ⟨i, h, e⟩)
      · exact ⟨k, by omega, .inl e⟩
      · exact ⟨k, by omega, .inr e⟩
      · exact ⟨i, by omega, e⟩
    · rintro ⟨i, h, e⟩
      by_cases c : i = k
      · subst c
        rcases e with e | e
        · exact .inl e
        · exact .inr (.inl e)
      · exact .inr (.inr ⟨i, by omega, e⟩)
open Classical in
/-- how many below k -/
noncomputable def cntP (P : Nat → Prop) : Nat → Nat
  | 0 => 0
  | k + 1 => cntP P k + if P k then 1 else 0
theorem cntP_congr {P Q : Nat → Prop} (k : Nat) (h : ∀ i, i < k → (P i ↔ Q i)) : cntP P k = cntP Q k := by
  induction k with
  | zero => rfl
  | succ k ih =>
    simp only [cntP]
    rw [ih (fun i hi => h i (by omega))]
    have := h k (by omega)
    by_cases c : P k
    · rw [if_pos c, if_pos (this.1 c)]
    · rw [if_neg c, if_neg (fun d => c (this.2 d))]
theorem cntP_le (P : Nat → Prop) (k : Nat) : cntP P k ≤ k := by
  induction k with
  | zero => exact Nat.le_refl _
  | succ k ih => simp only [cntP]; split <;> omega
/-- pair j is the first of its closed curve -/
def Mn (f g : Nat → Nat) (k : Nat) (σ : Nat → Nat) (j : Nat) : Prop := ∀ z, Conn σ (tau (prs f g k)) (f j) z → ∃ i, j ≤ i ∧ i < k ∧ (z = f i ∨ z = g i)
theorem mn_con {f g : Nat → Nat} {k : Nat} {σ : Nat → Nat} (hi : Inv2 σ) (h : OK σ (prs f g (k + 1))) {j : Nat} (hj : j < k) : Mn f g (k + 1) σ j ↔ Mn f g k (con (f k) (g k) σ) j := by
  have h' := h
  obtain ⟨h0, h1, h2, h3, h4, h5⟩ := h'
  have fx : f j ≠ f k := fun e => h3 ((pts_prs _ _ _ _).2 ⟨j, hj, .inl e.symm⟩)
  have fy : f j ≠ g k := fun e => h4 ((pts_prs _ _ _ _).2 ⟨j, hj, .inl e.symm⟩)
  constructor
  · intro m z hz
    obtain ⟨zx, zy, hz⟩ := conn_con1 hi h fx fy hz
    obtain ⟨i, a, b, c⟩ := m z hz
    exact ⟨i, a, by grind, c⟩
  · intro m z hz
    by_cases e : z = f k ∨ z = g k
    · exact ⟨k, by omega, by omega, e⟩
    · obtain ⟨i, a, b, c⟩ := m z ((conn_con2 hi h fx fy hz).1 (fun q => e (.inl q)) (fun q => e (.inr q)))
      exact ⟨i, a, by omega, c⟩
theorem mn_self {f g : Nat → Nat} {k : Nat} {σ : Nat → Nat} (hi : Inv2 σ) (h : OK σ (prs f g (k + 1))) : Mn f g (k + 1) σ k ↔ σ (f k) = g k := by
  obtain ⟨h0, h1, h2, h3, h4, h5⟩ := h
  constructor
  · intro m
    obtain ⟨i, a, b, c⟩ := m _ (.s _ .refl)
    have : i = k := by omega
    subst this
    rcases c with c | c
    · exact absurd c h1
    · exact c
  · intro e z hz
    have e2 : σ (g k) = f k := by rw [← e, hi]
    refine ⟨k, by omega, by omega, ?_⟩
    induction hz with
    | refl => exact .inl rfl
    | s v _ ih => rcases ih with rfl | rfl
                  · exact .inr e
                  · exact .inl e2
    | t v _ ih => rcases ih with rfl | rfl
                  · exact .inr (tau_fst _ _ _)
                  · exact .inl (tau_snd _ h0)
theorem glue_count (f g : Nat → Nat) (k : Nat) : ∀ σ : Nat → Nat, Inv2 σ → OK σ (prs f g k) → (glue (prs f g k) σ).2 = cntP (Mn f g k σ) k := by
  induction k with
  | zero => intro σ _ _; rfl
  | succ k ih =>
    intro σ hi h
    have h' := h
    obtain ⟨h0, h1, h2, h3, h4, h5⟩ := h'
    have e := ih _ (con_inv hi h1 h2 h0) (h5.con hi h0 h3 h4)
    simp only [prs, glue, cntP]
    rw [e, cntP_congr k (fun i hik => (mn_con hi h hik).symm)]
    congr 1
    unfold lp
    by_cases c : σ (f k) = g k
    · rw [if_pos c, if_pos ((mn_self hi h).2 c)]
    · rw [if_neg c, if_neg (fun d => c ((mn_self hi h).1 d))]
/-! ### the order of the pairs -/
theorem glue_perm {l l' : List (Nat × Nat)} (hp : l.Perm l') : ∀ σ : Nat → Nat, Inv2 σ → OK σ l → glue l σ = glue l' σ ∧ OK σ l' := by
  have pp : ∀ {a b : List (Nat × Nat)}, a.Perm b → ∀ z, pts a z ↔ pts b z := fun h z => by
    unfold pts
    constructor
    · rintro ⟨p, m, e⟩; exact ⟨p, h.mem_iff.1 m, e⟩
    · rintro ⟨p, m, e⟩; exact ⟨p, h.mem_iff.2 m, e⟩
  induction hp with
  | nil => intro σ _ h; exact ⟨rfl, h⟩
  | cons p hp ih =>
    intro σ hi h
    obtain ⟨x, y⟩ := p
    obtain ⟨h0, h1, h2, h3, h4, h5⟩ := h
    obtain ⟨e, _⟩ := ih _ (con_inv hi h1 h2 h0) (h5.con hi h0 h3 h4)
    obtain ⟨_, k⟩ := ih σ hi h5
    refine ⟨by simp only [glue]; rw [e], h0, h1, h2, fun d => h3 ((pp hp _).2 d), fun d => h4 ((pp hp _).2 d), k⟩
  | swap p q l =>
    intro σ hi h
    obtain ⟨u, v⟩ := p
    obtain ⟨x, y⟩ := q
    obtain ⟨h0, h1, h2, h3, h4, k0, k1, k2, k3, k4, k5⟩ := h
    simp only [pts_cons, not_or] at h3 h4
    have e1 := lp_comm hi h1 h2 k1 k2 h0 k0 h3.1 h3.2.1 h4.1 h4.2.1
    have e2 : con x y (con u v σ) = con u v (con x y σ) := funext fun z => (con_comm hi h1 h2 k1 k2 h0 k0 h3.1 h3.2.1 h4.1 h4.2.1 z).symm
    refine ⟨?_, k0, k1, k2, ?_, ?_, h0, h1, h2, h3.2.2, h4.2.2, k5⟩
    · simp only [glue]
      rw [e2]
      congr 1
      omega
    · simp only [pts_cons, not_or]; exact ⟨Ne.symm h3.1, Ne.symm h4.1, k3⟩
    · simp only [pts_cons, not_or]; exact ⟨Ne.symm h3.2.1, Ne.symm h4.2.1, k4⟩
  | trans _ _ ih1 ih2 =>
    intro σ hi h
    obtain ⟨e1, k1⟩ := ih1 σ hi h
    obtain ⟨e2, k2⟩ := ih2 σ hi k1
    exact ⟨e1.trans e2, k2⟩
theorem glue_app (l l' : List (Nat × Nat)) : ∀ σ : Nat → Nat, glue (l ++ l') σ = ((glue l' (glue l σ).1).1, (glue l' (glue l σ).1).2 + (glue l σ).2) := by
  induction l with
  | nil => intro σ; simp [glue]
  | cons p l ih =>
    obtain ⟨x, y⟩ := p
    intro σ
    simp only [List.cons_append, glue, ih]
    congr 1
    omega
theorem glue_inv (l : List (Nat × Nat)) : ∀ σ : Nat → Nat, Inv2 σ → OK σ l → Inv2 (glue l σ).1 := by
  induction l with
  | nil => intro σ h _; exact h
  | cons p l ih =>
    obtain ⟨x, y⟩ := p
    intro σ hi h
    obtain ⟨h0, h1, h2, h3, h4, h5⟩ := h
    exact ih _ (con_inv hi h1 h2 h0) (h5.con hi h0 h3 h4)
theorem glue_alive (l : List (Nat × Nat)) : ∀ σ : Nat → Nat, Inv2 σ → OK σ l → ∀ z, ¬ pts l z → σ z ≠ z → (glue l σ).1 z ≠ z := by
  induction l with
  | nil => intro σ _ _ z _ h; exact h
  | cons p l ih =>
    obtain ⟨x, y⟩ := p
    intro σ hi h z hz hs
    obtain ⟨h0, h1, h2, h3, h4, h5⟩ := h
    simp only [pts_cons, not_or] at hz
    exact ih _ (con_inv hi h1 h2 h0) (h5.con hi h0 h3 h4) z hz.2.2 (con_alive hi h0 hz.1 hz.2.1 hs)
theorem con_dead2 {σ : Nat → Nat} {x y z : Nat} (hz : z = x ∨ z = y) : con x y σ z = z := by unfold con; rw [if_pos hz]
theorem glue_dead (l : List (Nat × Nat)) : ∀ σ : Nat → Nat, Inv2 σ → OK σ l → ∀ z, pts l z ∨ σ z = z → (glue l σ).1 z = z := by
  induction l with
  | nil => intro σ _ _ z h; exact h.resolve_left (pts_nil z)
  | cons p l ih =>
    obtain ⟨x, y⟩ := p
    intro σ hi h z hz
    obtain ⟨h0, h1, h2, h3, h4, h5⟩ := h
    refine ih _ (con_inv hi h1 h2 h0) (h5.con hi h0 h3 h4) z ?_
    rcases hz with hz | hz
    · rcases (pts_cons _ _ _ _).1 hz with e | e | e
      · exact .inr (con_dead2 (.inl e))
      · exact .inr (con_dead2 (.inr e))
      · exact .inl e
    · exact .inr (con_dead hi h1 h2 hz)
/-! ### other names -/
/-- σ does with the new names what a does with the old ones below N -/
def Emb (N : Nat) (F a σ : Nat → Nat) : Prop := ∀ z, z < N → a z < N ∧ σ (F z) = F (a z)
theorem con_emb {N : Nat} {F a σ : Nat → Nat} (hF : ∀ u v, u < N → v < N → F u = F v → u = v) (h : Emb N F a σ) {x y : Nat} (hx : x < N) (hy : y < N) : Emb N F (con x y a) (con (F x) (F y) σ) ∧ lp (F x) (F y) σ = lp x y a := by
  have i : ∀ u v, u < N → v < N → (F u = F v ↔ u = v) := fun u v hu hv => ⟨hF u v hu hv, fun e => by rw [e]⟩
  have hxx := h x hx
  have hyy := h y hy
  constructor
  · intro z hz
    have hzz := h z hz
    unfold con
    rw [hxx.2, hyy.2, hzz.2]
    simp only [i z x hz hx, i z y hz hy, i z (a x) hz hxx.1, i z (a y) hz hyy.1]
    grind
  · unfold lp
    rw [hxx.2]
    simp only [i _ y hxx.1 hy]
theorem glue_emb {N : Nat} {F : Nat → Nat} (hF : ∀ u v, u < N → v < N → F u = F v → u = v) (l : List (Nat × Nat)) : ∀ {a σ : Nat → Nat}, Emb N F a σ → (∀ p ∈ l, p.1 < N ∧ p.2 < N) → Emb N F (glue l a).1 (glue (l.map (fun p => (F p.1, F p.2))) σ).1 ∧ (glue (l.map (fun p => (F p.1, F p.2))) σ).2 = (glue l a).2 := by
  induction l with
  | nil => intro a σ h _; exact ⟨h, rfl⟩
  | cons p l ih =>
    obtain ⟨x, y⟩ := p
    intro a σ h hl
    have hxy := hl (x, y) List.mem_cons_self
    obtain ⟨h1, h2⟩ := con_emb hF h hxy.1 hxy.2
    obtain ⟨h3, h4⟩ := ih h1 (fun p hp => hl p (List.mem_cons_of_mem _ hp))
    simp only [List.map_cons, glue]
    exact ⟨h3, by rw [h4, h2]⟩
theorem con_swap {σ : Nat → Nat} (x y : Nat) (hi : Inv2 σ) (xy : x ≠ y) : con x y σ = con y x σ ∧ lp x y σ = lp y x σ := by
  have h1 := hi x
  have h2 := hi y
  have hj : ∀ a b, σ a = σ b → a = b := fun a b => hi.inj
  constructor
  · funext z; unfold con; grind
  · unfold lp; grind
/-! ### without crossings -/
/-! ### the pigeon-hole -/
theorem pigeon : ∀ (n : Nat) (f : Nat → Nat), (∀ i, i ≤ n → f i < n) → ∃ i j, i < j ∧ j ≤ n ∧ f i = f j := by
  intro n
  induction n with
  | zero => intro f h; have := h 0 (Nat.le_refl _); omega
  | succ n ih =>
    intro f h
    by_cases c : ∃ i, i ≤ n ∧ f i = f (n + 1)
    · obtain ⟨i, a, b⟩ := c; exact ⟨i, n + 1, by omega, Nat.le_refl _, b⟩
    · obtain ⟨i, j, a, b, e⟩ := ih (fun i => if f i = n then f (n + 1) else f i) (fun i hi => by
        have h1 := h i (by omega)
        have h2 := h (n + 1) (Nat.le_refl _)
        show (if f i = n then f (n + 1) else f i) < n
        by_cases d : f i = n
        · rw [if_pos d]
          have : f (n + 1) ≠ n := fun e => c ⟨i, hi, by rw [d, e]⟩
          omega
        · rw [if_neg d]; omega)
      refine ⟨i, j, a, by omega, ?_⟩
      have e : (if f i = n then f (n + 1) else f i) = if f j = n then f (n + 1) else f j := e
      by_cases d1 : f i = n <;> by_cases d2 : f j = n
      · rw [d1, d2]
      · rw [if_pos d1, if_neg d2] at e; exact absurd ⟨j, b, e.symm⟩ c
      · rw [if_neg d1, if_pos d2] at e; exact absurd ⟨i, by omega, e⟩ c
      · rw [if_neg d1, if_neg d2] at e; exact e
/-- the same number of times -/
def itr (f : Nat → Nat) : Nat → Nat → Nat
  | 0, z => z
  | k + 1, z => itr f k (f z)
theorem itr_succ (f : Nat → Nat) (k : Nat) : ∀ z, itr f (k + 1) z = f (itr f k z) := by
  induction k with
  | zero => intro z; rfl
  | succ k ih => intro z; rw [itr, ih (f z)]; rfl
/-- a walk that begins outside of a set of N points, by steps that lead no two points to one, does not stay in it -/
theorem leaves {f : Nat → Nat} (hf : ∀ a b, f a = f b → a = b) (S : Nat → Prop) (c : Nat → Nat) (N : Nat) (hc : ∀ z, S z → c z < N) (hci : ∀ u v, S u → S v → c u = c v → u = v) (p : Nat) (hp : ¬ S p) : ∃ k, k ≤ N ∧ ¬ S (itr f (k + 1) p) ∧ ∀ i, i < k → S (itr f (i + 1) p) := by
  have h : ∃ k, k ≤ N ∧ ¬ S (itr f (k + 1) p) := by
    refine Classical.byContradiction fun hn => ?_
    have hS : ∀ i, i ≤ N → S (itr f (i + 1) p) := fun i hi => Classical.byContradiction fun h => hn ⟨i, hi, h⟩
    obtain ⟨i, j, a, b, e⟩ := pigeon N (fun i => c (itr f (i + 1) p)) (fun i hi => hc _ (hS i hi))
    have e := hci _ _ (hS i (by omega)) (hS j b) e
    have back : ∀ k, itr f k p = itr f (j - i + k) p → p = itr f (j - i) p := by
      intro k
      induction k with
      | zero => intro h; exact h
      | succ k ih => intro h; rw [itr_succ, show j - i + (k + 1) = (j - i + k) + 1 by omega, itr_succ] at h; exact ih (hf _ _ h)
    have e2 := back (i + 1) (by rw [show j - i + (i + 1) = j + 1 by omega]; exact e)
    refine hp ?_
    rw [e2]
    have := hS (j - i - 1) (by omega)
    rwa [show j - i - 1 + 1 = j - i by omega] at this
  obtain ⟨k, h1, h2⟩ := h
  clear hc hci hf
  induction k using Nat.strongRecOn with
  | ind k ih =>
    by_cases c2 : ∃ i, i < k ∧ ¬ S (itr f (i + 1) p)
    · obtain ⟨i, a, b⟩ := c2; exact ih i a (by omega) b
    · exact ⟨k, h1, h2, fun i hi => Classical.byContradiction fun h => c2 ⟨i, hi, h⟩⟩
end Go.Proofs.Ytjfkompfkgjdaaa.G
end
section
/- Orbits of two pairings, and the points on ways: plain. -/
namespace Go.Proofs.Ytjfkompfkgjdaaa.G
/-! ### round and round -/
/-- A pairs the indices of U -/
structure Pairs (U : Nat → Prop) (A : Nat → Nat) : Prop where
  mem : ∀ m, U m → U (A m)
  ne : ∀ m, U m → A m ≠ m
  inv : ∀ m, U m → A (A m) = m
structure Rd (U : Nat → Prop) (A B : Nat → Nat) (T M : Nat → Prop) (i c : Nat) : Prop where
  ui : U i
  uc : U c
  sub : ∀ m, U m → T m → M m
  cA : ∀ m, U m → M m → M (A m)
  cB : ∀ m, U m → M m → m ≠ i → m ≠ B c → M (B m) ∧ B m ≠ i ∧ B m ≠ B c
  st : (c = i ∧ ¬ M i ∧ ¬ M (B i)) ∨ (M i ∧ M (B c) ∧ B c ≠ i)
  low : ∀ m, U m → M m → T m ∨ Conn A B i m
  cc : Conn A B i c
theorem Rd.start {U : Nat → Prop} {A B : Nat → Nat} {T : Nat → Prop} (hA : Pairs U A) (hB : Pairs U B) (tA : ∀ m, U m → T m → T (A m)) (tB : ∀ m, U m → T m → T (B m)) {i : Nat} (ui : U i) (hi : ¬ T i) : Rd U A B T T i i := by
  refine ⟨ui, ui, fun _ _ h => h, tA, fun m um h mi mb => ⟨tB m um h, fun e => ?_, fun e => ?_⟩, .inl ⟨rfl, hi, fun e => hi (by have := tB _ (hB.mem i ui) e; rwa [hB.inv i ui] at this)⟩, fun _ _ h => .inl h, .refl⟩
  · exact hi (e ▸ tB m um h)
  · have h1 := hB.inv m um
    rw [e, hB.inv i ui] at h1
    exact mi h1.symm
theorem Rd.step {U : Nat → Prop} {A B : Nat → Nat} {T M M' : Nat → Prop} {i c : Nat} (hA : Pairs U A) (hB : Pairs U B) (h : Rd U A B T M i c) (hc : ¬ M c) (hM : ∀ m, U m → (M' m ↔ M m ∨ m = c ∨ m = A c)) : Rd U A B T M' i (B (A c)) := by
  have uAc := hA.mem c h.uc
  have uBc := hB.mem c h.uc
  have a1 : ¬ M (A c) := fun e => hc (by have := h.cA _ uAc e; rwa [hA.inv c h.uc] at this)
  have a2 := hA.inv c h.uc
  have a3 := hA.ne c h.uc
  have b1 := hB.inv c h.uc
  have b2 := hB.inv (A c) uAc
  have nAi : A c ≠ i := by
    rcases h.st with ⟨e, _⟩ | ⟨e, _, _⟩
    · exact fun f => a3 (f.trans e.symm)
    · exact fun f => a1 (f ▸ e)
  refine ⟨h.ui, hB.mem _ uAc, fun m um t => (hM m um).2 (.inl (h.sub m um t)), fun m um hm => ?_, fun m um hm mi mb => ?_, .inr ⟨?_, ?_, ?_⟩, fun m um hm => ?_, ?_⟩
  · refine (hM _ (hA.mem m um)).2 ?_
    rcases (hM m um).1 hm with e | e | e
    · exact .inl (h.cA m um e)
    · exact .inr (.inr (by rw [e]))
    · exact .inr (.inl (by rw [e, a2]))
  · rw [b2] at mb
    have bm := hB.mem m um
    rcases (hM m um).1 hm with e | e | e
    · by_cases d : m = B c
      · subst d
        rw [b1]
        rcases h.st with ⟨f, g⟩ | ⟨f, g, k⟩
        · exact absurd (f ▸ e) g.2
        · exact ⟨(hM c h.uc).2 (.inr (.inl rfl)), fun q => hc (q ▸ f), fun q => a3 (by rw [b2] at q; exact q.symm)⟩
      · obtain ⟨f, g, k⟩ := h.cB m um e mi d
        exact ⟨(hM _ bm).2 (.inl f), g, fun q => a1 (by rw [b2] at q; exact q ▸ f)⟩
    · subst e
      rcases h.st with ⟨f, _⟩ | ⟨f, g, k⟩
      · exact absurd f mi
      · exact ⟨(hM _ bm).2 (.inl g), k, fun q => a1 (by rw [b2] at q; exact q ▸ g)⟩
    · exact absurd e mb
  · rcases h.st with ⟨e, _⟩ | ⟨e, _, _⟩
    · exact (hM i h.ui).2 (.inr (.inl e.symm))
    · exact (hM i h.ui).2 (.inl e)
  · rw [b2]; exact (hM _ uAc).2 (.inr (.inr rfl))
  · rw [b2]; exact nAi
  · rcases (hM m um).1 hm with e | e | e
    · exact h.low m um e
    · subst e; exact .inr h.cc
    · subst e; exact .inr (.s _ h.cc)
  · exact .t _ (.s _ h.cc)
theorem Rd.fin {U : Nat → Prop} {A B : Nat → Nat} {T M : Nat → Prop} {i c : Nat} (hA : Pairs U A) (hB : Pairs U B) (h : Rd U A B T M i c) (hc : M c) : ∀ m, U m → (M m ↔ T m ∨ Conn A B i m) := by
  have b1 := hB.inv c h.uc
  have st := h.st
  have ci : c = i := by
    refine Classical.byContradiction fun n => ?_
    rcases st with ⟨e, _⟩ | ⟨e, g, k⟩
    · exact n e
    · exact (h.cB c h.uc hc n (Ne.symm (hB.ne c h.uc))).2.2 rfl
  have hi : M i ∧ M (B c) := by
    rcases st with ⟨e, f⟩ | ⟨e, g, k⟩
    · exact absurd (ci ▸ hc) f.1
    · exact ⟨e, g⟩
  have cB : ∀ m, U m → M m → M (B m) := by
    intro m um hm
    by_cases e : m = i
    · rw [e, ← ci]; exact hi.2
    · by_cases f : m = B c
      · rw [f, b1]; exact hc
      · exact (h.cB m um hm e f).1
  have all : ∀ m, Conn A B i m → U m ∧ M m := by
    intro m hm
    induction hm with
    | refl => exact ⟨h.ui, hi.1⟩
    | s y _ ih => exact ⟨hA.mem y ih.1, h.cA y ih.1 ih.2⟩
    | t y _ ih => exact ⟨hB.mem y ih.1, cB y ih.1 ih.2⟩
  intro m um
  exact ⟨h.low m um, fun e => e.elim (h.sub m um) (fun e => (all m e).2)⟩
/-- the index is the first of its curve -/
def Fst (U : Nat → Prop) (A B : Nat → Nat) (i : Nat) : Prop := U i ∧ ∀ j, j < i → U j → ¬ Conn A B j i
/-- what is met before index i is looked at -/
def MetI (U : Nat → Prop) (A B : Nat → Nat) (i : Nat) (T : Nat → Prop) : Prop := ∀ m, U m → (T m ↔ ∃ j, j < i ∧ U j ∧ Conn A B j m)
theorem MetI.closed {U : Nat → Prop} {A B : Nat → Nat} {i : Nat} {T : Nat → Prop} (hA : Pairs U A) (hB : Pairs U B) (h : MetI U A B i T) : (∀ m, U m → T m → T (A m)) ∧ (∀ m, U m → T m → T (B m)) := by
  refine ⟨fun m um t => ?_, fun m um t => ?_⟩
  · obtain ⟨j, a, b, c⟩ := (h m um).1 t; exact (h _ (hA.mem m um)).2 ⟨j, a, b, .s _ c⟩
  · obtain ⟨j, a, b, c⟩ := (h m um).1 t; exact (h _ (hB.mem m um)).2 ⟨j, a, b, .t _ c⟩
theorem MetI.skip {U : Nat → Prop} {A B : Nat → Nat} {i : Nat} {T : Nat → Prop} (h : MetI U A B i T) (hi : U i → T i) : MetI U A B (i + 1) T ∧ ¬ Fst U A B i := by
  constructor
  · intro m um
    refine ⟨fun t => ?_, fun ⟨j, a, b, c⟩ => ?_⟩
    · obtain ⟨j, a, b, c⟩ := (h m um).1 t; exact ⟨j, by omega, b, c⟩
    · by_cases e : j = i
      · subst e
        obtain ⟨j', a', b', c'⟩ := (h j b).1 (hi b)
        exact (h m um).2 ⟨j', a', b', c'.trans c⟩
      · exact (h m um).2 ⟨j, by omega, b, c⟩
  · intro ⟨ui, hf⟩
    obtain ⟨j, a, b, c⟩ := (h i ui).1 (hi ui)
    exact hf j a b c
theorem MetI.round {U : Nat → Prop} {A B : Nat → Nat} {i : Nat} {T T' : Nat → Prop} (h : MetI U A B i T) (ui : U i) (hi : ¬ T i) (hT : ∀ m, U m → (T' m ↔ T m ∨ Conn A B i m)) : MetI U A B (i + 1) T' ∧ Fst U A B i := by
  constructor
  · intro m um
    rw [hT m um]
    refine ⟨fun t => ?_, fun ⟨j, a, b, c⟩ => ?_⟩
    · rcases t with t | t
      · obtain ⟨j, a, b, c⟩ := (h m um).1 t; exact ⟨j, by omega, b, c⟩
      · exact ⟨i, by omega, ui, t⟩
    · by_cases e : j = i
      · exact .inr (e ▸ c)
      · exact .inl ((h m um).2 ⟨j, by omega, b, c⟩)
  · exact ⟨ui, fun j a b c => hi ((h i ui).2 ⟨j, a, b, c⟩)⟩
theorem Conn.swap {σ τ : Nat → Nat} {x y : Nat} (h : Conn σ τ x y) : Conn τ σ x y := by
  induction h with
  | refl => exact .refl
  | s y _ ih => exact .t _ ih
  | t y _ ih => exact .s _ ih
/-! ### along the ways -/
structure W0 (σ τ : Nat → Nat) (mid P M : Nat → Prop) : Prop where
  cl : ∀ u, ((mid u ∧ M u) ∨ (¬ mid u ∧ P u)) → ¬ mid (σ u) ∨ M (σ u)
  ct : ∀ u, mid u → M u → M (τ u)
  low : ∀ u, mid u → M u → ∃ o, ¬ mid o ∧ Conn σ τ o u
structure W1 (σ τ : Nat → Nat) (mid P : Nat → Prop) (p z : Nat) (M : Nat → Prop) : Prop where
  pin : ¬ mid p
  zin : z = p ∨ (mid z ∧ M z)
  cl : ∀ u, ((mid u ∧ M u) ∨ (¬ mid u ∧ (P u ∨ u = p))) → u ≠ z → ¬ mid (σ u) ∨ M (σ u)
  ct : ∀ u, mid u → M u → M (τ u)
  low : ∀ u, mid u → M u → ∃ o, ¬ mid o ∧ Conn σ τ o u
  cz : Conn σ τ p z
theorem W0.start {σ τ : Nat → Nat} {mid P M : Nat → Prop} (h : W0 σ τ mid P M) {p : Nat} (hp : ¬ mid p) : W1 σ τ mid P p p M := by
  refine ⟨hp, .inl rfl, fun u hu ne => ?_, h.ct, h.low, .refl⟩
  rcases hu with hu | ⟨a, b⟩
  · exact h.cl u (.inl hu)
  · exact h.cl u (.inr ⟨a, b.resolve_right ne⟩)
theorem W1.step {σ τ : Nat → Nat} {mid P M M' : Nat → Prop} {p z : Nat} (hs : Inv2 σ) (ht : Inv2 τ) (tm : ∀ u, mid u → mid (τ u)) (h : W1 σ τ mid P p z M) (hz : mid (σ z)) (hM : ∀ u, mid u → (M' u ↔ M u ∨ u = σ z ∨ u = τ (σ z))) : W1 σ τ mid P p (τ (σ z)) M' := by
  have up : ∀ u, mid u → M u → M' u := fun u a b => (hM u a).2 (.inl b)
  refine ⟨h.pin, .inr ⟨tm _ hz, (hM _ (tm _ hz)).2 (.inr (.inr rfl))⟩, fun u hu ne => ?_, fun u um hu => ?_, fun u um hu => ?_, .t _ (.s _ h.cz)⟩
  · have old : ((mid u ∧ M u) ∨ (¬ mid u ∧ (P u ∨ u = p))) → ¬ mid (σ u) ∨ M' (σ u) := by
      intro q
      by_cases e : u = z
      · rw [e]; exact .inr ((hM _ hz).2 (.inr (.inl rfl)))
      · by_cases m : mid (σ u)
        · exact .inr (up _ m ((h.cl u q e).resolve_left (fun f => f m)))
        · exact .inl m
    rcases hu with ⟨um, hu⟩ | hu
    · rcases (hM u um).1 hu with e | e | e
      · exact old (.inl ⟨um, e⟩)
      · rw [e, hs z]
        rcases h.zin with f | ⟨f, g⟩
        · exact .inl (f ▸ h.pin)
        · exact .inr (up _ f g)
      · exact absurd e ne
    · exact old (.inr hu)
  · refine (hM _ (tm u um)).2 ?_
    rcases (hM u um).1 hu with e | e | e
    · exact .inl (h.ct u um e)
    · exact .inr (.inr (by rw [e]))
    · exact .inr (.inl (by rw [e, ht]))
  · rcases (hM u um).1 hu with e | e | e
    · exact h.low u um e
    · exact ⟨p, h.pin, e ▸ .s _ h.cz⟩
    · exact ⟨p, h.pin, e ▸ .t _ (.s _ h.cz)⟩
theorem W1.fin {σ τ : Nat → Nat} {mid P M : Nat → Prop} {p z : Nat} (h : W1 σ τ mid P p z M) (hz : ¬ mid (σ z)) : W0 σ τ mid (fun u => P u ∨ u = p) M := by
  refine ⟨fun u hu => ?_, h.ct, h.low⟩
  by_cases e : u = z
  · rw [e]; exact .inl hz
  · exact h.cl u hu e
theorem W0.all {σ τ : Nat → Nat} {mid P M : Nat → Prop} (h : W0 σ τ mid P M) (tout : ∀ u, ¬ mid u → τ u = u) (hP : ∀ u, ¬ mid u → P u ∨ σ u = u) : ∀ u, mid u → (M u ↔ ∃ o, ¬ mid o ∧ Conn σ τ o u) := by
  intro u um
  refine ⟨h.low u um, fun ⟨o, ho, hc⟩ => ?_⟩
  have all : ∀ v, Conn σ τ o v → ¬ mid v ∨ M v := by
    intro v hv
    induction hv with
    | refl => exact .inl ho
    | s y _ ih =>
      by_cases my : mid y
      · exact h.cl y (.inl ⟨my, ih.resolve_left (fun e => e my)⟩)
      · rcases hP y my with a | a
        · exact h.cl y (.inr ⟨my, a⟩)
        · rw [a]; exact .inl my
    | t y _ ih =>
      by_cases my : mid y
      · exact .inr (h.ct y my (ih.resolve_left (fun e => e my)))
      · rw [tout y my]; exact .inl my
  exact (all u hc).resolve_left (fun e => e um)
/-! ### indices and points -/
theorem tau_prs {f g : Nat → Nat} {σ : Nat → Nat} (k : Nat) : OK σ (prs f g k) → ∀ j, j < k → tau (prs f g k) (f j) = g j ∧ tau (prs f g k) (g j) = f j := by
  induction k with
  | zero => intro _ j hj; omega
  | succ k ih =>
    intro h j hj
    have h' := h
    obtain ⟨h0, h1, h2, h3, h4, h5⟩ := h'
    by_cases e : j = k
    · subst e; exact ⟨tau_fst _ _ _, tau_snd _ h0⟩
    · have hjk : j < k := by omega
      obtain ⟨a, b⟩ := ih h5 j hjk
      have p1 : pts (prs f g k) (f j) := (pts_prs _ _ _ _).2 ⟨j, hjk, .inl rfl⟩
      have p2 : pts (prs f g k) (g j) := (pts_prs _ _ _ _).2 ⟨j, hjk, .inr rfl⟩
      have q1 : f j ≠ f k := fun e => h3 (e ▸ p1)
      have q2 : f j ≠ g k := fun e => h4 (e ▸ p1)
      have q3 : g j ≠ f k := fun e => h3 (e ▸ p2)
      have q4 : g j ≠ g k := fun e => h4 (e ▸ p2)
      simp only [prs, tau]
      rw [if_neg q1, if_neg q2, if_neg q3, if_neg q4]
      exact ⟨a, b⟩
/-- the indices whose curves stay within the pairs, and the steps from one to another -/
structure Ixs (f g : Nat → Nat) (k : Nat) (σ : Nat → Nat) (U : Nat → Prop) (A B : Nat → Nat) : Prop where
  lt : ∀ m, U m → m < k
  u : ∀ m, m < k → (U m ↔ ∀ z, Conn σ (tau (prs f g k)) (f m) z → pts (prs f g k) z)
  sA : ∀ m, U m → U (A m) ∧ σ (f m) = f (A m)
  sB : ∀ m, U m → U (B m) ∧ σ (g m) = g (B m)
theorem Ixs.conn {f g : Nat → Nat} {k : Nat} {σ : Nat → Nat} {U : Nat → Prop} {A B : Nat → Nat} (h : Ixs f g k σ U A B) (ho : OK σ (prs f g k)) {j : Nat} (uj : U j) {z : Nat} (hz : Conn σ (tau (prs f g k)) (f j) z) : ∃ i, U i ∧ Conn A B j i ∧ (z = f i ∨ z = g i) := by
  induction hz with
  | refl => exact ⟨j, uj, .refl, .inl rfl⟩
  | s y _ ih =>
    obtain ⟨i, a, b, c⟩ := ih
    rcases c with c | c
    · have := h.sA i a; exact ⟨A i, this.1, .s _ b, .inl (by rw [c]; exact this.2)⟩
    · have := h.sB i a; exact ⟨B i, this.1, .t _ b, .inr (by rw [c]; exact this.2)⟩
  | t y _ ih =>
    obtain ⟨i, a, b, c⟩ := ih
    have := tau_prs k ho i (h.lt i a)
    rcases c with c | c
    · exact ⟨i, a, b, .inr (by rw [c]; exact this.1)⟩
    · exact ⟨i, a, b, .inl (by rw [c]; exact this.2)⟩
theorem Ixs.back {f g : Nat → Nat} {k : Nat} {σ : Nat → Nat} {U : Nat → Prop} {A B : Nat → Nat} (h : Ixs f g k σ U A B) (ho : OK σ (prs f g k)) {j i : Nat} (uj : U j) (hz : Conn A B j i) : U i ∧ Conn σ (tau (prs f g k)) (f j) (f i) := by
  induction hz with
  | refl => exact ⟨uj, .refl⟩
  | s y _ ih =>
    have := h.sA y ih.1
    exact ⟨this.1, this.2 ▸ .s _ ih.2⟩
  | t y _ ih =>
    have e := h.sB y ih.1
    have t1 := tau_prs k ho y (h.lt y ih.1)
    have t2 := tau_prs k ho (B y) (h.lt _ e.1)
    refine ⟨e.1, ?_⟩
    have := Conn.t _ (Conn.s _ (Conn.t _ ih.2))
    rwa [t1.1, e.2, t2.2] at this
theorem prs_ne {f g : Nat → Nat} {σ : Nat → Nat} (k : Nat) : OK σ (prs f g k) → ∀ i j, i < k → j < k → (f i = f j → i = j) ∧ f i ≠ g j ∧ (g i = g j → i = j) := by
  induction k with
  | zero => intro _ i j hi; omega
  | succ k ih =>
    intro h i j hi hj
    obtain ⟨h0, h1, h2, h3, h4, h5⟩ := h
    have p1 : ∀ i, i < k → f i ≠ f k ∧ g i ≠ f k ∧ f i ≠ g k ∧ g i ≠ g k := fun i hi => by
      have a : pts (prs f g k) (f i) := (pts_prs _ _ _ _).2 ⟨i, hi, .inl rfl⟩
      have b : pts (prs f g k) (g i) := (pts_prs _ _ _ _).2 ⟨i, hi, .inr rfl⟩
      exact ⟨fun e => h3 (e ▸ a), fun e => h3 (e ▸ b), fun e => h4 (e ▸ a), fun e => h4 (e ▸ b)⟩
    by_cases ei : i = k
    · by_cases ej : j = k
      · subst ei; subst ej; exact ⟨fun _ => rfl, h0, fun _ => rfl⟩
      · have := p1 j (by omega)
        subst ei
        exact ⟨fun e => absurd e.symm this.1, fun e => this.2.1 e.symm, fun e => absurd e.symm this.2.2.2⟩
    · have p := p1 i (by omega)
      by_cases ej : j = k
      · subst ej
        exact ⟨fun e => absurd e p.1, p.2.2.1, fun e => absurd e p.2.2.2⟩
      · exact ih h5 i j (by omega) (by omega)
theorem Ixs.symm {f g : Nat → Nat} {k : Nat} {σ : Nat → Nat} {U : Nat → Prop} {A B : Nat → Nat} (h : Ixs f g k σ U A B) (hi : Inv2 σ) (ho : OK σ (prs f g k)) {j i : Nat} (uj : U j) (hz : Conn A B j i) : Conn A B i j := by
  obtain ⟨ui, c⟩ := h.back ho uj hz
  obtain ⟨j', _, d, e⟩ := h.conn ho ui (c.symm hi (tau_inv ho))
  rename_i uj'
  have n := prs_ne k ho j j' (h.lt j uj) (h.lt j' uj')
  rcases e with e | e
  · rw [n.1 e]; exact d
  · exact absurd e n.2.1
end Go.Proofs.Ytjfkompfkgjdaaa.G
end
section
/- Two matchings, one on top of the other, glued along the middle: plain. -/
namespace Go.Proofs.Ytjfkompfkgjdaaa.G
/-! ### two matchings, one on top of the other -/
/-- a matching of 2 n points -/
def Mat (n : Nat) (a : Nat → Nat) : Prop := ∀ z, z < 2 * n → a z < 2 * n ∧ a z ≠ z ∧ a (a z) = z
def jn (n : Nat) (a b : Nat → Nat) (z : Nat) : Nat := if z < 2 * n then a z else if z < 4 * n then 2 * n + b (z - 2 * n) else z
def up (n m : Nat) : Nat := n + m
def dn (n m : Nat) : Nat := 2 * n + m
def mids (n : Nat) : List (Nat × Nat) := prs (up n) (dn n) n
theorem jn_lo {n : Nat} {a b : Nat → Nat} {z : Nat} (h : z < 2 * n) : jn n a b z = a z := by unfold jn; rw [if_pos h]
theorem jn_hi {n : Nat} {a b : Nat → Nat} {z : Nat} (h : z < 2 * n) : jn n a b (2 * n + z) = 2 * n + b z := by
  unfold jn; rw [if_neg (by omega), if_pos (by omega), Nat.add_sub_cancel_left]
theorem jn_off {n : Nat} {a b : Nat → Nat} {z : Nat} (h : 4 * n ≤ z) : jn n a b z = z := by unfold jn; rw [if_neg (by omega), if_neg (by omega)]
theorem jn_cases {n z : Nat} : z < 2 * n ∨ (∃ y, y < 2 * n ∧ z = 2 * n + y) ∨ 4 * n ≤ z := by
  by_cases c : z < 2 * n
  · exact .inl c
  · by_cases d : z < 4 * n
    · exact .inr (.inl ⟨z - 2 * n, by omega, by omega⟩)
    · exact .inr (.inr (by omega))
theorem jn_inv {n : Nat} {a b : Nat → Nat} (ha : Mat n a) (hb : Mat n b) : Inv2 (jn n a b) := by
  intro z
  rcases @jn_cases n z with h | ⟨y, h, rfl⟩ | h
  · rw [jn_lo h, jn_lo (ha z h).1, (ha z h).2.2]
  · rw [jn_hi h, jn_hi (hb y h).1, (hb y h).2.2]
  · rw [jn_off h, jn_off h]
theorem jn_alive {n : Nat} {a b : Nat → Nat} (ha : Mat n a) (hb : Mat n b) {z : Nat} : jn n a b z ≠ z ↔ z < 4 * n := by
  rcases @jn_cases n z with h | ⟨y, h, rfl⟩ | h
  · rw [jn_lo h]; exact ⟨fun _ => by omega, fun _ => (ha z h).2.1⟩
  · rw [jn_hi h]; exact ⟨fun _ => by omega, fun _ e => (hb y h).2.1 (by omega)⟩
  · rw [jn_off h]; exact ⟨fun e => absurd rfl e, fun e => by omega⟩
theorem jn_lt {n : Nat} {a b : Nat → Nat} (ha : Mat n a) (hb : Mat n b) {z : Nat} (h : z < 4 * n) : jn n a b z < 4 * n := by
  rcases @jn_cases n z with c | ⟨y, c, rfl⟩ | c
  · rw [jn_lo c]; have := (ha z c).1; omega
  · rw [jn_hi c]; have := (hb y c).1; omega
  · omega
theorem prs_ok {f g : Nat → Nat} {σ : Nat → Nat} (k : Nat) (hn : ∀ i j, i < k → j < k → (f i = f j → i = j) ∧ f i ≠ g j ∧ (g i = g j → i = j)) (ha : ∀ i, i < k → σ (f i) ≠ f i ∧ σ (g i) ≠ g i) : OK σ (prs f g k) := by
  induction k with
  | zero => trivial
  | succ k ih =>
    have h := ih (fun i j a b => hn i j (by omega) (by omega)) (fun i a => ha i (by omega))
    have hk := ha k (by omega)
    refine ⟨(hn k k (by omega) (by omega)).2.1, hk.1, hk.2, fun q => ?_, fun q => ?_, h⟩
    · obtain ⟨i, a, b⟩ := (pts_prs _ _ _ _).1 q
      rcases b with b | b
      · have := (hn k i (by omega) (by omega)).1 b; omega
      · exact (hn k i (by omega) (by omega)).2.1 b
    · obtain ⟨i, a, b⟩ := (pts_prs _ _ _ _).1 q
      rcases b with b | b
      · exact (hn i k (by omega) (by omega)).2.1 b.symm
      · have := (hn k i (by omega) (by omega)).2.2 b; omega
theorem mids_ok {n : Nat} {a b : Nat → Nat} (ha : Mat n a) (hb : Mat n b) : OK (jn n a b) (mids n) := by
  refine prs_ok n (fun i j hi hj => ?_) (fun i hi => ⟨(jn_alive ha hb).2 ?_, (jn_alive ha hb).2 ?_⟩) <;> simp only [up, dn] <;> omega
theorem mids_pts {n z : Nat} : pts (mids n) z ↔ n ≤ z ∧ z < 3 * n := by
  unfold mids
  rw [pts_prs]
  constructor
  · rintro ⟨i, h, e⟩; simp only [up, dn] at e; omega
  · intro h
    by_cases c : z < 2 * n
    · exact ⟨z - n, by omega, .inl (by simp only [up]; omega)⟩
    · exact ⟨z - 2 * n, by omega, .inr (by simp only [dn]; omega)⟩
/-- the outer points -/
def emb (n p : Nat) : Nat := if p < n then p else p + 2 * n
def une (n q : Nat) : Nat := if q < n then q else q - 2 * n
theorem emb_out {n p : Nat} (h : p < 2 * n) : ¬ pts (mids n) (emb n p) ∧ emb n p < 4 * n := by
  rw [mids_pts]; unfold emb; split <;> omega
theorem une_emb {n p : Nat} : une n (emb n p) = p := by
  unfold une emb
  by_cases c : p < n
  · rw [if_pos c, if_pos c]
  · rw [if_neg c, if_neg (by omega)]; omega
theorem emb_une {n q : Nat} (h : ¬ pts (mids n) q) (h2 : q < 4 * n) : emb n (une n q) = q ∧ une n q < 2 * n := by
  rw [mids_pts] at h
  unfold une emb
  by_cases c : q < n
  · rw [if_pos c, if_pos c]; omega
  · rw [if_neg c, if_neg (by omega)]; omega
def prod (n : Nat) (a b : Nat → Nat) (p : Nat) : Nat := une n ((glue (mids n) (jn n a b)).1 (emb n p))
def lops (n : Nat) (a b : Nat → Nat) : Nat := (glue (mids n) (jn n a b)).2
theorem glue_out {n : Nat} {a b : Nat → Nat} (ha : Mat n a) (hb : Mat n b) {z : Nat} (h1 : ¬ pts (mids n) z) (h2 : z < 4 * n) : ¬ pts (mids n) ((glue (mids n) (jn n a b)).1 z) ∧ (glue (mids n) (jn n a b)).1 z < 4 * n := by
  have hi := jn_inv ha hb
  have ho := mids_ok ha hb
  have gi := glue_inv _ _ hi ho
  have ga := glue_alive _ _ hi ho z h1 ((jn_alive ha hb).2 h2)
  refine ⟨fun e => ?_, ?_⟩
  · have := glue_dead _ _ hi ho _ (.inl e); rw [gi] at this; exact ga this.symm
  · refine Classical.byContradiction fun e => ?_
    have := glue_dead _ _ hi ho ((glue (mids n) (jn n a b)).1 z) (.inr (jn_off (by omega))); rw [gi] at this; exact ga this.symm
theorem prod_emb {n : Nat} {a b : Nat → Nat} (ha : Mat n a) (hb : Mat n b) {p : Nat} (h : p < 2 * n) : emb n (prod n a b p) = (glue (mids n) (jn n a b)).1 (emb n p) ∧ prod n a b p < 2 * n := by
  have e := emb_out h
  have g := glue_out ha hb e.1 e.2
  exact emb_une g.1 g.2
theorem prod_mat {n : Nat} {a b : Nat → Nat} (ha : Mat n a) (hb : Mat n b) : Mat n (prod n a b) := by
  intro p hp
  have h1 := prod_emb ha hb hp
  have h2 := prod_emb ha hb h1.2
  have gi := glue_inv _ _ (jn_inv ha hb) (mids_ok ha hb)
  refine ⟨h1.2, fun e => ?_, ?_⟩
  · have ga := glue_alive _ _ (jn_inv ha hb) (mids_ok ha hb) _ (emb_out hp).1 ((jn_alive ha hb).2 (emb_out hp).2)
    rw [e] at h1; exact ga h1.1.symm
  · have h3 := h2.1
    rw [h1.1, gi] at h3
    have := congrArg (une n) h3
    rwa [une_emb, une_emb] at this
/-! ### the steps through the middle -/
end Go.Proofs.Ytjfkompfkgjdaaa.G
end
section
/- The product as the program makes it is the gluing along the middle. -/
namespace Go.Proofs.Ytjfkompfkgjdaaa.L
open Go.RowKit Go.Proofs.Ytjfkompfkgjdaaa.PC Go.Proofs.YtjfkompfkgjdaaaW.PrintWords Go.Proofs.YtjfkompfkgjdaaaW.PrintLast Go.Proofs.Ytjfkompfkgjdaaa.G
/-- a list as a function -/
def fn (l : List Int) (z : Nat) : Nat := (rd l (z : Int)).toNat
/-- a list that is a matching of 2 n points -/
structure LM (n : Nat) (l : List Int) : Prop where
  len : l.length = 2 * n
  nn : ∀ z : Nat, z < 2 * n → rd l (z : Int) = (fn l z : Int)
  mat : Mat n (fn l)
theorem rd_range (f : Nat → Int) (N z : Nat) (h : z < N) : rd ((List.range N).map f) (z : Int) = f z := by
  simp [rd, List.getD_eq_getElem?_getD, h]
theorem list_eq {a b : List Int} (hl : a.length = b.length) (h : ∀ z : Nat, z < a.length → rd a (z : Int) = rd b (z : Int)) : a = b := by
  apply List.ext_getElem hl
  intro i h1 h2
  have := h i h1
  simpa [rd, List.getD_eq_getElem?_getD, h1, h2] using this
/-! ### the ways -/
theorem getD_set (T : List Bool) (i j : Nat) (h : i < T.length) : (T.set i true).getD j false = true ↔ T.getD j false = true ∨ j = i := by
  by_cases e : i = j
  · subst e; simp [List.getD_eq_getElem?_getD, h]
  · simp only [List.getD_eq_getElem?_getD, List.getElem?_set_ne e]
    exact ⟨fun h => .inl h, fun h => h.elim id (fun f => absurd f.symm e)⟩
end Go.Proofs.Ytjfkompfkgjdaaa.L
end
section
namespace Go.Proofs.Ytjfkompfkgjdaaa.PC
open Go.RowKit Go.Proofs.YtjfkompfkgjdaaaW.PrintWords Go.Proofs.YtjfkompfkgjdaaaW.PrintLast Go.Proofs.YtjfkompfkgjdaaaW.PrintMore
attribute [local go_sem] max2_int min2_int max_two min_two max_three min_three max_four min_four   -- for this text's walks alone
set_option linter.unusedVariables false
set_option linter.unusedSimpArgs false
end Go.Proofs.Ytjfkompfkgjdaaa.PC
end
section
/- Arch systems: the partners of the points, and the closed curves of two of them, by the program and by the specification. -/
namespace Go.Proofs.Ytjfkompfkgjdaaa.L
open Go.RowKit Go.Proofs.Ytjfkompfkgjdaaa.PC Go.Proofs.YtjfkompfkgjdaaaW.PrintWords Go.Proofs.YtjfkompfkgjdaaaW.PrintLast
theorem pw64 {x : Int} (h0 : -9223372036854775808 ≤ x) (h1 : x ≤ 9223372036854775807) : wrap64 x = x := by unfold wrap64; omega
/-- how many opening brackets among the first i bytes -/
def opn (s : ByteArray) : Nat → Nat
  | 0 => 0
  | i + 1 => opn s i + if bt s (i : Int) = 40 then 1 else 0
structure Inv (s : ByteArray) (q : Nat) (out op : List Int) : Prop where
  len : out.length = s.size
  frng : ∀ x ∈ out, 0 ≤ x ∧ (x < (s.size : Int) ∨ s.size = 0)
  fop : ∀ x ∈ op, 0 ≤ x ∧ x < (q : Int)
  cnt : op.length + q = 2 * opn s q
  br : ∀ i : Nat, i < q → bt s (i : Int) = 40 ∨ bt s (i : Int) = 41
  dep : ∀ i : Nat, i ≤ q → i ≤ 2 * opn s i
theorem mem_set {l : List Int} {i : Nat} {v x : Int} (h : x ∈ l.set i v) : x ∈ l ∨ x = v := List.mem_or_eq_of_mem_set h
theorem rd_last {op : List Int} (h : op.length ≠ 0) : rd op ((op.length : Int) - 1) ∈ op := by
  have e : ((op.length : Int) - 1).toNat = op.length - 1 := by omega
  simp [rd, List.getD_eq_getElem?_getD, e, show op.length - 1 < op.length by omega]
theorem Inv.shut {s : ByteArray} {q : Nat} {out op : List Int} (h : Inv s q out op) (hq : q < s.size) (hb : bt s (q : Int) = 41) (ho : op.length ≠ 0) : Inv s (q + 1) ((out.set q (rd op ((op.length : Int) - 1))).set (rd op ((op.length : Int) - 1)).toNat (q : Int)) (op.take (op.length - 1)) := by
  have hc : opn s (q + 1) = opn s q := by simp [opn, hb]
  have hl := h.fop _ (rd_last ho)
  have hcnt := h.cnt
  refine ⟨by simpa using h.len, fun x hx => ?_, fun x hx => ?_, by rw [List.length_take]; omega, fun i hi => ?_, fun i hi => ?_⟩
  · rcases mem_set hx with hx | hx
    · rcases mem_set hx with hx | hx
      · exact h.frng x hx
      · omega
    · omega
  · have := h.fop x (List.mem_of_mem_take hx); omega
  · by_cases e : i = q
    · rw [e]; exact Or.inr hb
    · exact h.br i (by omega)
  · by_cases e : i = q + 1
    · rw [e]; omega
    · exact h.dep i (by omega)
/-- what is known of an arch system and its partners -/
structure Arch (s : ByteArray) (o : List Int) : Prop where
  len : o.length = s.size
  pos : s.size ≠ 0
  rng : ∀ x ∈ o, 0 ≤ x ∧ x < (s.size : Int)
  br : ∀ i : Nat, i < s.size → bt s (i : Int) = 40 ∨ bt s (i : Int) = 41
  dep : ∀ i : Nat, i ≤ s.size → i ≤ 2 * opn s i
  bal : s.size = 2 * opn s s.size
/-! ### closed curves -/
theorem count_set (T : List Bool) (i : Nat) (hi : i < T.length) (h : T.getD i false = false) : (T.set i true).count false + 1 = T.count false := by
  induction T generalizing i with
  | nil => simp at hi
  | cons x xs ih =>
    cases i with
    | zero => simp at h; subst h; simp
    | succ i =>
      have := ih i (by simpa using hi) (by simpa using h)
      cases x <;> simp [List.count_cons] at this ⊢ <;> omega
theorem count_set_le (T : List Bool) (i : Nat) : (T.set i true).count false ≤ T.count false := by
  by_cases hi : i < T.length
  · cases h : T.getD i false with
    | false => have := count_set T i hi h; omega
    | true =>
      have e : T.set i true = T := by
        apply List.ext_getElem (by simp)
        intro j h1 h2
        by_cases e : i = j
        · subst e; simp [List.getD_eq_getElem?_getD, hi] at h; simp [h]
        · simp [List.getElem_set, e]
      rw [e]; exact Nat.le_refl _
  · rw [List.set_eq_of_length_le (by omega)]; exact Nat.le_refl _
end Go.Proofs.Ytjfkompfkgjdaaa.L
end
section
/- The product as the program makes it: all ways, the closed curves, and the whole. -/
namespace Go.Proofs.Ytjfkompfkgjdaaa.L
open Go.RowKit Go.Proofs.Ytjfkompfkgjdaaa.PC Go.Proofs.YtjfkompfkgjdaaaW.PrintWords Go.Proofs.YtjfkompfkgjdaaaW.PrintLast Go.Proofs.Ytjfkompfkgjdaaa.G
theorem rd_set (l : List Int) (i j : Nat) (v : Int) (h : i < l.length) : rd (l.set i v) (j : Int) = if j = i then v else rd l (j : Int) := by
  by_cases e : i = j
  · subst e; simp [rd, List.getD_eq_getElem?_getD, h]
  · rw [if_neg (Ne.symm e)]
    simp [rd, List.getD_eq_getElem?_getD, List.getElem?_set_ne e]
/-- the outer points below i, of both sides -/
def done (n i u : Nat) : Prop := ∃ j, j < i ∧ (u = emb n j ∨ u = emb n (n + j))
theorem W0.congr {σ τ : Nat → Nat} {mid P Q M : Nat → Prop} (h : W0 σ τ mid P M) (hq : ∀ u, Q u → P u) : W0 σ τ mid Q M :=
  ⟨fun u hu => h.cl u (hu.elim .inl (fun e => .inr ⟨e.1, hq u e.2⟩)), h.ct, h.low⟩
/-! ### the closed curves -/
def bM (T : List Bool) (m : Nat) : Prop := T.getD m false = true
theorem count_pos {T : List Bool} {i : Nat} (hi : i < T.length) (h : T.getD i false = false) : T.count false ≠ 0 := by
  have := count_set T i hi h; omega
end Go.Proofs.Ytjfkompfkgjdaaa.L
end
section
/- The pile of open points, and pairings without crossings: plain. -/
namespace Go.Proofs.Ytjfkompfkgjdaaa.G
/-! ### the pile of open points -/
def run (D : Nat → Nat) : Nat → Nat → List Nat → List Nat
  | 0, _, st => st
  | d + 1, x, [] => run D d (x + 1) [x]
  | d + 1, x, y :: st => if y = D x then run D d (x + 1) st else run D d (x + 1) (x :: y :: st)
/-- a pairing of the points below N -/
def PairN (N : Nat) (D : Nat → Nat) : Prop := ∀ x, x < N → D x < N ∧ D x ≠ x ∧ D (D x) = x
def NCD (N : Nat) (D : Nat → Nat) : Prop := ∀ a c, a < N → c < N → ¬ (a < c ∧ c < D a ∧ D a < D c)
/-- falling, below x -/
def Fall : Nat → List Nat → Prop
  | _, [] => True
  | x, y :: st => y < x ∧ Fall y st
theorem Fall.lt {x : Nat} {st : List Nat} (h : Fall x st) : ∀ z, z ∈ st → z < x := by
  induction st generalizing x with
  | nil => intro z hz; cases hz
  | cons y st ih =>
    intro z hz
    rcases List.mem_cons.1 hz with rfl | hz
    · exact h.1
    · have := ih h.2 z hz; have := h.1; omega
theorem Fall.mono {x y : Nat} {st : List Nat} (h : Fall x st) (hxy : x ≤ y) : Fall y st := by
  cases st with
  | nil => trivial
  | cons z st => exact ⟨by have := h.1; omega, h.2⟩
theorem run_back {N : Nat} {D : Nat → Nat} (hD : PairN N D) (d : Nat) : ∀ (x : Nat) (st : List Nat), x + d = N → Fall x st → run D d x st = [] →
    (∀ z, z ∈ st → x ≤ D z) ∧ ∀ a c, a < N → c < N → (a ∈ st ∨ x ≤ a) → (c ∈ st ∨ x ≤ c) → x ≤ D a → ¬ (a < c ∧ c < D a ∧ D a < D c) := by
  induction d with
  | zero =>
    intro x st hx _ h
    simp only [run] at h
    subst h
    refine ⟨fun z hz => (by cases hz), fun a c ha _ _ _ h => ?_⟩
    have := (hD a ha).1
    omega
  | succ d ih =>
    intro x st hx hf h
    have hxN : x < N := by omega
    have push : run D d (x + 1) (x :: st) = [] → (∀ z, z ∈ st → x ≤ D z) ∧ ∀ a c, a < N → c < N → (a ∈ st ∨ x ≤ a) → (c ∈ st ∨ x ≤ c) → x ≤ D a → ¬ (a < c ∧ c < D a ∧ D a < D c) := by
      intro h
      obtain ⟨h1, h2⟩ := ih (x + 1) (x :: st) (by omega) ⟨by omega, hf⟩ h
      have hx1 := h1 x List.mem_cons_self
      refine ⟨fun z hz => by have := h1 z (List.mem_cons_of_mem _ hz); omega, fun a c ha hc ma mc hda hcr => ?_⟩
      have e : D a ≠ x := fun e => by
        have := (hD a ha).2.2; rw [e] at this; omega
      refine h2 a c ha hc ?_ ?_ (by omega) hcr
      · rcases ma with ma | ma
        · exact .inl (List.mem_cons_of_mem _ ma)
        · by_cases q : a = x
          · exact .inl (q ▸ List.mem_cons_self)
          · exact .inr (by omega)
      · rcases mc with ma | ma
        · exact .inl (List.mem_cons_of_mem _ ma)
        · by_cases q : c = x
          · exact .inl (q ▸ List.mem_cons_self)
          · exact .inr (by omega)
    cases st with
    | nil => exact push h
    | cons y st =>
      simp only [run] at h
      by_cases c : y = D x
      · rw [if_pos c] at h
        have yx : y < x := hf.1
        obtain ⟨h1, h2⟩ := ih (x + 1) st (by omega) (hf.2.mono (by omega)) h
        have dy : D y = x := by rw [c, (hD x hxN).2.2]
        refine ⟨fun z hz => ?_, fun a b ha hb ma mb hda hcr => ?_⟩
        · rcases List.mem_cons.1 hz with rfl | hz
          · omega
          · have := h1 z hz; omega
        · have e : D a ≠ x := fun e => by
            have e2 := (hD a ha).2.2
            rw [e, ← c] at e2
            subst e2
            rcases mb with mb | mb
            · rcases List.mem_cons.1 mb with rfl | mb
              · omega
              · have := hf.2.lt b mb; omega
            · omega
          have mem : ∀ u, (u ∈ y :: st ∨ x ≤ u) → x + 1 ≤ D u → u ∈ st ∨ x + 1 ≤ u := by
            intro u mu hu
            rcases mu with mu | mu
            · rcases List.mem_cons.1 mu with rfl | mu
              · omega
              · exact .inl mu
            · by_cases q : u = x
              · subst q; omega
              · exact .inr (by omega)
          exact h2 a b ha hb (mem a ma (by omega)) (mem b mb (by omega)) (by omega) hcr
      · rw [if_neg c] at h
        exact push h
/-- the pile of a pairing without crossings: those that are still open -/
def Stay (N : Nat) (D : Nat → Nat) (x : Nat) (st : List Nat) : Prop := Fall x st ∧ ∀ z, z ∈ st ↔ z < x ∧ x ≤ D z
theorem open_step {N : Nat} {D : Nat → Nat} (hD : PairN N D) (hn : NCD N D) {x : Nat} (hx : x < N) {st : List Nat} (h : Stay N D x st) :
    (D x < x ∧ ∃ st', st = D x :: st' ∧ Stay N D (x + 1) st') ∨ (x < D x ∧ (∀ y st', st = y :: st' → y ≠ D x) ∧ Stay N D (x + 1) (x :: st)) := by
  obtain ⟨h1, h2, h3⟩ := hD x hx
  by_cases c : D x < x
  · refine .inl ⟨c, ?_⟩
    have m : D x ∈ st := (h.2 _).2 ⟨c, by omega⟩
    cases st with
    | nil => cases m
    | cons y st =>
      have hy := (h.2 y).1 List.mem_cons_self
      have e : y = D x := by
        refine Classical.byContradiction fun ne => ?_
        rcases List.mem_cons.1 m with q | q
        · exact ne q.symm
        · have l := h.1.2.lt _ q
          have hyN : y < N := by omega
          have : D y ≠ x := fun e => by have := (hD y hyN).2.2; rw [e] at this; exact ne this.symm
          exact hn (D x) y h1 hyN ⟨l, by omega, by omega⟩
      subst e
      refine ⟨st, rfl, h.1.2.mono (by omega), fun z => ⟨fun hz => ?_, fun hz => ?_⟩⟩
      · have l := h.1.2.lt z hz
        have := (h.2 z).1 (List.mem_cons_of_mem _ hz)
        have ne : D z ≠ x := fun e => by have := (hD z (by omega)).2.2; rw [e] at this; omega
        omega
      · have ne : z ≠ x := fun e => by subst e; omega
        rcases List.mem_cons.1 ((h.2 z).2 ⟨by omega, by omega⟩) with q | q
        · subst q; omega
        · exact q
  · refine .inr ⟨by omega, fun y st' e q => ?_, ⟨by omega, h.1⟩, fun z => ⟨fun hz => ?_, fun hz => ?_⟩⟩
    · have := (h.2 y).1 (by rw [e]; exact List.mem_cons_self); omega
    · rcases List.mem_cons.1 hz with rfl | hz
      · omega
      · have := (h.2 z).1 hz
        have ne : D z ≠ x := fun e => by have := (hD z (by omega)).2.2; rw [e] at this; omega
        omega
    · by_cases e : z = x
      · rw [e]; exact List.mem_cons_self
      · exact List.mem_cons_of_mem _ ((h.2 z).2 ⟨by omega, by omega⟩)
theorem open_run {N : Nat} {D : Nat → Nat} (hD : PairN N D) (hn : NCD N D) (d : Nat) : ∀ (x : Nat) (st : List Nat), x + d = N → Stay N D x st → run D d x st = [] := by
  induction d with
  | zero =>
    intro x st hx h
    obtain rfl : x = N := by omega
    simp only [run]
    cases st with
    | nil => rfl
    | cons y st =>
      have := (h.2 y).1 List.mem_cons_self
      have := (hD y (by omega)).1
      omega
  | succ d ih =>
    intro x st hx h
    rcases open_step hD hn (by omega : x < N) h with ⟨_, st', rfl, g⟩ | ⟨_, g1, g⟩
    · simp only [run]
      rw [if_pos trivial]
      exact ih (x + 1) st' (by omega) g
    · cases st with
      | nil => exact ih (x + 1) _ (by omega) g
      | cons y st =>
        simp only [run]
        rw [if_neg (g1 y st rfl)]
        exact ih (x + 1) _ (by omega) g
theorem run_iff {N : Nat} {D : Nat → Nat} (hD : PairN N D) : run D N 0 [] = [] ↔ NCD N D := by
  constructor
  · intro h a c ha hc
    exact (run_back hD N 0 [] (by omega) trivial h).2 a c ha hc (.inr (by omega)) (.inr (by omega)) (by omega)
  · intro h
    exact open_run hD h N 0 [] (by omega) ⟨trivial, fun z => ⟨fun hz => (by cases hz), fun hz => by omega⟩⟩
end Go.Proofs.Ytjfkompfkgjdaaa.G
end
section
/- What a diagram is, by the program (a pile along the border) and by the specification (no two pairs cross). -/
namespace Go.Proofs.Ytjfkompfkgjdaaa.L
open Go.RowKit Go.Proofs.Ytjfkompfkgjdaaa.PC Go.Proofs.YtjfkompfkgjdaaaW.PrintWords Go.Proofs.YtjfkompfkgjdaaaW.PrintLast Go.Proofs.Ytjfkompfkgjdaaa.G
/-- where a point lies along the border; and which point lies there -/
def bo (n i : Nat) : Nat := if i < n then i else 3 * n - 1 - i
theorem bo_lt {n i : Nat} (h : i < 2 * n) : bo n i < 2 * n := by unfold bo; split <;> omega
theorem bo_bo {n i : Nat} (h : i < 2 * n) : bo n (bo n i) = i := by
  unfold bo
  by_cases c : i < n
  · rw [if_pos c, if_pos c]
  · rw [if_neg c, if_neg (by omega)]; omega
def bl (n : Nat) : List Int := (List.range (2 * n)).map (fun i => (bo n i : Int))
theorem bl_rd {n z : Nat} (h : z < 2 * n) : rd (bl n) (z : Int) = (bo n z : Int) := rd_range _ _ _ h
theorem bl_len (n : Nat) : (bl n).length = 2 * n := by simp [bl]
theorem border_l1 {n : Nat} (hn : n ≤ 1000) (d : Nat) : ∀ j, j + d = n → Ev (fun k => plait_border.l1 k (n : Int) ((List.range (n + j)).map (fun i => (bo n i : Int))) (n : Int) (j : Int)) (bl n) := by
  induction d with
  | zero =>
    intro j hj
    obtain rfl : j = n := by omega
    refine Ev.step (f := fun _ => some (bl j)) (fun k => ?_) (Ev.now _)
    simp only [plait_border.l1]
    rw [if_neg (by omega), show j + j = 2 * j by omega]; rfl
  | succ d ih =>
    intro j hj
    refine Ev.step (fun k => ?_) (ih (j + 1) (by omega))
    simp only [plait_border.l1]
    rw [if_pos (by omega), if_pos (by simp; omega), pw64 (x := 2 * (n : Int)) (by omega) (by omega), pw64 (x := 2 * (n : Int) - 1) (by omega) (by omega), pw64 (x := 2 * (n : Int) - 1 - (j : Int)) (by omega) (by omega), pw64 (by omega) (by omega)]
    rw [show n + (j + 1) = (n + j) + 1 by omega, List.range_succ, List.map_append]
    have e : ((bo n (n + j) : Nat) : Int) = 2 * (n : Int) - 1 - (j : Int) := by unfold bo; rw [if_neg (by omega)]; omega
    simp only [List.map_cons, List.map_nil, e]
    rfl
theorem border_l0 {n : Nat} (hn : n ≤ 1000) (d : Nat) : ∀ j, j + d = n → Ev (fun k => plait_border.l0 k (n : Int) ((List.range j).map (fun i => (bo n i : Int))) (n : Int) (j : Int)) (bl n) := by
  induction d with
  | zero =>
    intro j hj
    obtain rfl : j = n := by omega
    refine Ev.step (fun k => ?_) (border_l1 hn j 0 (by omega))
    simp only [plait_border.l0]
    rw [if_neg (by omega)]; rfl
  | succ d ih =>
    intro j hj
    refine Ev.step (fun k => ?_) (ih (j + 1) (by omega))
    simp only [plait_border.l0]
    rw [if_pos (by omega), if_pos (by simp; omega), pw64 (by omega) (by omega), List.range_succ, List.map_append]
    have e : ((bo n j : Nat) : Int) = (j : Int) := by unfold bo; rw [if_pos (by omega)]
    simp only [List.map_cons, List.map_nil, e]
    rfl
theorem border_ev {n : Nat} (hn : n ≤ 1000) : Ev (fun k => plait_border.f k (n : Int)) (bl n) := Ev.congr (fun k => rfl) (border_l0 hn n 0 (by omega))
theorem refborder {n i : Nat} (hn : n ≤ 1000) (hi : i < 2 * n) : pomaderef07_border.f (n : Int) (i : Int) = some (bo n i : Int) := by
  unfold pomaderef07_border.f bo
  by_cases c : i < n
  · rw [if_pos (by omega), if_pos c]
  · rw [if_neg (by omega), if_neg c, pw64 (x := 3 * (n : Int)) (by omega) (by omega), pw64 (x := 3 * (n : Int) - 1) (by omega) (by omega), pw64 (by omega) (by omega)]
    congr 1; omega
/-- the point has no right partner -/
def bad (l : List Int) (p : Nat) : Prop := rd l (p : Int) < 0 ∨ rd l (p : Int) ≥ (l.length : Int) ∨ rd l (p : Int) = (p : Int) ∨ rd l (rd l (p : Int)) ≠ (p : Int)
theorem lm_of {n : Nat} {l : List Int} (hl : l.length = 2 * n) (h : ∀ p, p < 2 * n → ¬ bad l p) : LM n l := by
  have h1 : ∀ p, p < 2 * n → rd l (p : Int) = (fn l p : Int) ∧ fn l p < 2 * n := by
    intro p hp
    have := h p hp
    unfold bad at this
    unfold fn
    omega
  refine ⟨hl, fun z hz => (h1 z hz).1, fun z hz => ⟨(h1 z hz).2, fun e => ?_, ?_⟩⟩
  · refine h z hz (.inr (.inr (.inl ?_)))
    rw [(h1 z hz).1, e]
  · refine Classical.byContradiction fun e => h z hz (.inr (.inr (.inr ?_)))
    rw [(h1 z hz).1, (h1 _ (h1 z hz).2).1]
    omega
theorem LM.good {n : Nat} {l : List Int} (h : LM n l) {p : Nat} (hp : p < 2 * n) : ¬ bad l p := by
  have h1 := h.nn p hp
  have h2 := h.mat p hp
  have h3 := h.nn _ h2.1
  have hl := h.len
  unfold bad
  rw [h1, h3, h2.2.2]
  omega
instance (l : List Int) (p : Nat) : Decidable (bad l p) := by unfold bad; infer_instance
theorem arch_l0 {n : Nat} {l : List Int} (hn : n ≤ 1000) (hl : l.length = 2 * n) (x : Nat) (hx : x < 2 * n) (st out : List Int) (k : Nat) :
    plait_diagram_arches.l0 (k + 1) l st out (bl n) ((2 * n : Nat) : Int) (x : Int) = plait_diagram_arches.j2 k l st out (bo n x : Int) (rd l (bo n x : Int)) (bl n) ((2 * n : Nat) : Int) (x : Int) (decide (bad l (bo n x))) := by
  have hb := bo_lt hx
  have hbl := bl_len n
  simp only [plait_diagram_arches.l0]
  rw [if_pos (by omega), if_pos (by omega), if_pos (by omega), bl_rd hx, if_pos (by omega), if_pos (by omega)]
  by_cases c1 : rd l (bo n x : Int) < 0
  · rw [if_pos c1, decide_eq_true (.inl c1)]
  · rw [if_neg c1]
    by_cases c2 : rd l (bo n x : Int) ≥ (l.length : Int)
    · rw [if_pos c2, decide_eq_true (.inr (.inl c2))]
    · rw [if_neg c2]
      by_cases c3 : rd l (bo n x : Int) = (bo n x : Int)
      · rw [if_pos c3, decide_eq_true (.inr (.inr (.inl c3)))]
      · rw [if_neg c3, if_pos (by omega), if_pos (by omega)]
        congr 1
        by_cases c4 : rd l (rd l (bo n x : Int)) = (bo n x : Int)
        · rw [c4, decide_eq_false (by unfold bad; omega)]; exact bne_self_eq_false ..
        · rw [decide_eq_true (.inr (.inr (.inr c4)))]; exact bne_iff_ne.2 c4
/-- a point without a right partner: none -/
theorem arch_bad {n : Nat} {l : List Int} (hn : n ≤ 1000) (hl : l.length = 2 * n) (d : Nat) : ∀ (x : Nat) (st out : List Int), x + d = 2 * n → st.length ≤ x → out.length ≤ x → (∃ y, x ≤ y ∧ y < 2 * n ∧ bad l (bo n y)) →
    Ev (fun k => plait_diagram_arches.l0 k l st out (bl n) ((2 * n : Nat) : Int) (x : Int)) ((⟨#[]⟩ : ByteArray), false) := by
  induction d with
  | zero => intro x st out hx _ _ ⟨y, a, b, _⟩; omega
  | succ d ih =>
    intro x st out hx hs ho hy
    refine Ev.step (fun k => arch_l0 hn hl x (by omega) st out k) ?_
    by_cases c : bad l (bo n x)
    · refine Ev.step (f := fun _ => some ((⟨#[]⟩ : ByteArray), false)) (fun k => ?_) (Ev.now _)
      rw [decide_eq_true c]
      simp only [plait_diagram_arches.j2]
      rw [if_pos trivial]
    · have hy' : ∃ y, x + 1 ≤ y ∧ y < 2 * n ∧ bad l (bo n y) := by
        obtain ⟨y, a, b, e⟩ := hy
        have : y ≠ x := fun q => c (q ▸ e)
        exact ⟨y, by omega, b, e⟩
      have e1 : wrap64 ((x : Int) + 1) = ((x + 1 : Nat) : Int) := by rw [pw64 (by omega) (by omega)]; rfl
      rw [decide_eq_false c]
      by_cases c1 : (st.length : Int) > 0
      · have ew : wrap64 ((st.length : Int) - 1) = (st.length : Int) - 1 := pw64 (by omega) (by omega)
        by_cases c2 : rd st ((st.length : Int) - 1) = rd l (bo n x : Int)
        · refine Ev.step (fun k => ?_) (ih (x + 1) (st.take ((st.length : Int) - 1).toNat) (out ++ [41]) (by omega) (by rw [List.length_take]; omega) (by simp; omega) hy')
          simp only [plait_diagram_arches.j2]
          rw [if_neg (by decide), if_pos c1, ew, if_pos (by omega), if_pos (by omega), if_pos c2, if_pos (by omega), if_pos (by omega), e1]
        · refine Ev.step (fun k => ?_) (ih (x + 1) (st ++ [(bo n x : Int)]) (out ++ [40]) (by omega) (by simp; omega) (by simp; omega) hy')
          simp only [plait_diagram_arches.j2]
          rw [if_neg (by decide), if_pos c1, ew, if_pos (by omega), if_pos (by omega), if_neg c2, if_pos (by omega), if_pos (by omega), e1]
      · refine Ev.step (fun k => ?_) (ih (x + 1) (st ++ [(bo n x : Int)]) (out ++ [40]) (by omega) (by simp; omega) (by simp; omega) hy')
        simp only [plait_diagram_arches.j2]
        rw [if_neg (by decide), if_neg c1, if_pos (by omega), if_pos (by omega), e1]
/-- the partner along the border -/
def Db (n : Nat) (l : List Int) (x : Nat) : Nat := bo n (fn l (bo n x))
theorem db_pair {n : Nat} {l : List Int} (h : LM n l) : PairN (2 * n) (Db n l) := by
  intro x hx
  have h1 := bo_lt hx
  have h2 := h.mat _ h1
  refine ⟨bo_lt h2.1, fun e => ?_, ?_⟩
  · have := congrArg (bo n) e
    unfold Db at this
    rw [bo_bo h2.1] at this
    exact h2.2.1 this
  · unfold Db
    rw [bo_bo h2.1, h2.2.2, bo_bo hx]
/-- the brackets that the pile gives -/
def rout (D : Nat → Nat) : Nat → Nat → List Nat → List Int
  | 0, _, _ => []
  | d + 1, x, [] => 40 :: rout D d (x + 1) [x]
  | d + 1, x, y :: st => if y = D x then 41 :: rout D d (x + 1) st else 40 :: rout D d (x + 1) (x :: y :: st)
def pile (n : Nat) (st : List Nat) : List Int := (st.map (fun y => (bo n y : Int))).reverse
theorem pile_cons (n y : Nat) (st : List Nat) : pile n (y :: st) = pile n st ++ [(bo n y : Int)] := by simp [pile]
theorem pile_len (n : Nat) (st : List Nat) : (pile n st).length = st.length := by simp [pile]
theorem pile_top (n y : Nat) (st : List Nat) : rd (pile n (y :: st)) (((pile n (y :: st)).length : Int) - 1) = (bo n y : Int) := by
  have e : (((pile n (y :: st)).length : Int) - 1).toNat = (pile n st).length := by rw [pile_len, pile_len]; simp
  unfold rd
  rw [e, pile_cons]
  simp [List.getD_eq_getElem?_getD]
theorem pile_pop (n y : Nat) (st : List Nat) : (pile n (y :: st)).take (((pile n (y :: st)).length : Int) - 1).toNat = pile n st := by
  have e : (((pile n (y :: st)).length : Int) - 1).toNat = (pile n st).length := by rw [pile_len, pile_len]; simp
  rw [e, pile_cons]
  simp
theorem arch_run {n : Nat} {l : List Int} (hn : n ≤ 1000) (h : LM n l) (d : Nat) : ∀ (x : Nat) (st : List Nat) (out : List Int), x + d = 2 * n → (∀ y, y ∈ st → y < 2 * n) → st.length ≤ x → out.length ≤ x →
    Ev (fun k => plait_diagram_arches.l0 k l (pile n st) out (bl n) ((2 * n : Nat) : Int) (x : Int)) (strOfNums (out ++ rout (Db n l) d x st), (run (Db n l) d x st).isEmpty) := by
  have hl := h.len
  induction d with
  | zero =>
    intro x st out hx hst hs ho
    refine Ev.step (f := fun _ => some (strOfNums (out ++ []), st.isEmpty)) (fun k => ?_) (Ev.now _)
    simp only [plait_diagram_arches.l0]
    rw [if_neg (by omega), List.append_nil, pile_len]
    cases st with
    | nil => rfl
    | cons y st => rfl
  | succ d ih =>
    intro x st out hx hst hs ho
    have hxl : x < 2 * n := by omega
    have hb := bo_lt hxl
    refine Ev.step (fun k => arch_l0 hn hl x hxl _ out k) ?_
    rw [decide_eq_false (h.good hb)]
    have e1 : wrap64 ((x : Int) + 1) = ((x + 1 : Nat) : Int) := by rw [pw64 (by omega) (by omega)]; rfl
    have q := h.nn _ hb
    cases st with
    | nil =>
      have g := ih (x + 1) [x] (out ++ [40]) (by omega) (fun y hy => by simp at hy; omega) (by simp) (by simp; omega)
      rw [pile_cons] at g
      simp only [run, rout]
      rw [List.append_assoc] at g
      refine Ev.step (fun k => ?_) g
      simp only [plait_diagram_arches.j2]
      have e0 : (pile n []).length = 0 := rfl
      rw [if_neg (by decide), if_neg (by omega), if_pos (by omega), if_pos (by omega), e1]
    | cons y st =>
      have hy := hst y List.mem_cons_self
      have pl := pile_len n (y :: st)
      have sl : (y :: st).length = st.length + 1 := rfl
      have ew : wrap64 (((pile n (y :: st)).length : Int) - 1) = ((pile n (y :: st)).length : Int) - 1 := pw64 (by omega) (by omega)
      have hD : y = Db n l x ↔ rd (pile n (y :: st)) (((pile n (y :: st)).length : Int) - 1) = rd l (bo n x : Int) := by
        rw [pile_top, q]
        unfold Db
        constructor
        · intro e; rw [e, bo_bo (h.mat _ hb).1]
        · intro e
          have : bo n y = fn l (bo n x) := by omega
          rw [← this, bo_bo hy]
      by_cases c : y = Db n l x
      · have g := ih (x + 1) st (out ++ [41]) (by omega) (fun z hz => hst z (List.mem_cons_of_mem _ hz)) (by omega) (by simp; omega)
        simp only [run, rout]
        rw [if_pos c, if_pos c]
        rw [List.append_assoc] at g
        refine Ev.step (fun k => ?_) g
        simp only [plait_diagram_arches.j2]
        rw [if_neg (by decide), if_pos (by omega), ew, if_pos (by omega), if_pos (by omega), if_pos (hD.1 c), if_pos (by omega), if_pos (by omega), e1, pile_pop]
      · have g := ih (x + 1) (x :: y :: st) (out ++ [40]) (by omega) (fun z hz => by
          rcases List.mem_cons.1 hz with rfl | hz
          · exact hxl
          · exact hst z hz) (by simp at hs ⊢; omega) (by simp; omega)
        simp only [run, rout]
        rw [if_neg c, if_neg c]
        rw [pile_cons, List.append_assoc] at g
        refine Ev.step (fun k => ?_) g
        simp only [plait_diagram_arches.j2]
        rw [if_neg (by decide), if_pos (by omega), ew, if_pos (by omega), if_pos (by omega), if_neg (fun e => c (hD.2 e)), if_pos (by omega), if_pos (by omega), e1]
/-- a diagram -/
structure Dia (n : Nat) (l : List Int) : Prop where
  pos : 0 < n
  lim : n ≤ 10
  lm : LM n l
  nc : NCD (2 * n) (Db n l)
/-- its brackets -/
def brk (n : Nat) (l : List Int) : List Int := (List.range (2 * n)).map (fun x => if Db n l x < x then 41 else 40)
theorem rout_nc {N : Nat} {D : Nat → Nat} (hD : PairN N D) (hn : NCD N D) (d : Nat) : ∀ (x : Nat) (st : List Nat), x + d = N → Stay N D x st → (List.range x).map (fun y => if D y < y then (41 : Int) else 40) ++ rout D d x st = (List.range N).map (fun y => if D y < y then (41 : Int) else 40) := by
  induction d with
  | zero => intro x st hx _; obtain rfl : x = N := by omega
            simp [rout]
  | succ d ih =>
    intro x st hx h
    rcases open_step hD hn (by omega : x < N) h with ⟨c, st', rfl, g⟩ | ⟨c, g1, g⟩
    · rw [← ih (x + 1) st' (by omega) g, List.range_succ, List.map_append]
      simp [rout, c]
    · rw [← ih (x + 1) _ (by omega) g, List.range_succ, List.map_append]
      have c' : ¬ D x < x := by omega
      cases st with
      | nil => simp [rout, c']
      | cons y st => simp [rout, c', g1 y st rfl]
theorem arches_start {n : Nat} {l : List Int} (hn : n ≤ 1000) (hp : 0 < n) (hl : l.length = 2 * n) {r : ByteArray × Bool} (h : Ev (fun k => plait_diagram_arches.l0 k l [] [] (bl n) ((2 * n : Nat) : Int) ((0 : Nat) : Int)) r) : Ev (fun k => plait_diagram_arches.f k l) r := by
  have e : wrap64 ((l.length : Int) / 2) = (n : Int) := by rw [pw64 (by omega) (by omega)]; omega
  refine Ev.congr (f := fun k => plait_diagram_arches.j0 k l false) (fun k => ?_) ?_
  · unfold plait_diagram_arches.f
    rw [if_neg (by omega)]
    congr 1
    have : (l.length : Int) % 2 = 0 := by omega
    rw [this]; rfl
  · refine Ev.step (f := fun k => (plait_border.f k (n : Int)).bind fun t108 => plait_diagram_arches.l0 k l ([] : List Int) ([] : List Int) t108 (t108.length : Int) 0) (fun k => ?_) ?_
    · simp only [plait_diagram_arches.j0]
      rw [if_neg (by decide)]
      unfold plait_diagram_size.f
      rw [Option.bind_some, e]
    · refine Ev.bind (border_ev hn) ?_
      rw [bl_len]
      exact h
theorem arches_odd {l : List Int} (hl : l.length % 2 = 1 ∨ l.length = 0) : Ev (fun k => plait_diagram_arches.f k l) ((⟨#[]⟩ : ByteArray), false) := by
  refine Ev.congr (f := fun k => plait_diagram_arches.j0 k l true) (fun k => ?_) (Ev.step (f := fun _ => some ((⟨#[]⟩ : ByteArray), false)) (fun k => ?_) (Ev.now _))
  · unfold plait_diagram_arches.f
    by_cases c : l.length = 0
    · rw [if_pos (by omega)]
    · rw [if_neg (by omega)]
      congr 1
      have : (l.length : Int) % 2 = 1 := by omega
      rw [this]; rfl
  · simp only [plait_diagram_arches.j0]
    rw [if_pos trivial]
/-! ### by the specification -/
def Crs (n : Nat) (l : List Int) (i k : Nat) : Prop := bo n i < bo n k ∧ bo n k < bo n (fn l i) ∧ bo n (fn l i) < bo n (fn l k)
theorem crs_nc {n : Nat} {l : List Int} : NCD (2 * n) (Db n l) ↔ ∀ i k, i < 2 * n → k < 2 * n → ¬ Crs n l i k := by
  constructor
  · intro h i k hi hk c
    have := h (bo n i) (bo n k) (bo_lt hi) (bo_lt hk)
    unfold Db at this
    rw [bo_bo hi, bo_bo hk] at this
    exact this c
  · intro h a c ha hc
    have := h (bo n a) (bo n c) (bo_lt ha) (bo_lt hc)
    unfold Crs at this
    rw [bo_bo ha, bo_bo hc] at this
    exact this
instance (n : Nat) (l : List Int) (i k : Nat) : Decidable (Crs n l i k) := by unfold Crs; infer_instance
theorem dia_l2 {n : Nat} {l : List Int} (hn : n ≤ 1000) (h : LM n l) (i x : Nat) (hi : i < 2 * n) (hx : x < 2 * n) (k : Nat) : pomaderef07_Diagram.l2 (k + 1) l (n : Int) (i : Int) (x : Int) = if Crs n l i x then some 2 else pomaderef07_Diagram.l2 k l (n : Int) (i : Int) ((x + 1 : Nat) : Int) := by
  have hl := h.len
  have e1 : wrap64 ((x : Int) + 1) = ((x + 1 : Nat) : Int) := by rw [pw64 (by omega) (by omega)]; rfl
  simp only [pomaderef07_Diagram.l2]
  rw [if_pos (by omega), refborder hn hi, Option.bind_some, if_pos (by omega), if_pos (by omega), h.nn i hi, refborder hn (h.mat i hi).1, Option.bind_some, refborder hn hx, Option.bind_some, if_pos (by omega), h.nn x hx, refborder hn (h.mat x hx).1, Option.bind_some, e1]
  by_cases c1 : bo n i < bo n x
  · rw [if_pos (by omega)]
    by_cases c2 : bo n x < bo n (fn l i)
    · rw [if_pos (by omega)]
      by_cases c3 : bo n (fn l i) < bo n (fn l x)
      · rw [if_pos (by omega), if_pos (show Crs n l i x from ⟨c1, c2, c3⟩)]
      · rw [if_neg (by omega), if_neg (fun c : Crs n l i x => c3 c.2.2)]
    · rw [if_neg (by omega), if_neg (fun c : Crs n l i x => c2 c.2.1)]
  · rw [if_neg (by omega), if_neg (fun c : Crs n l i x => c1 c.1)]
theorem dia_l2_hit {n : Nat} {l : List Int} (hn : n ≤ 1000) (h : LM n l) (i : Nat) (hi : i < 2 * n) (d : Nat) : ∀ x, x + d = 2 * n → (∃ y, x ≤ y ∧ y < 2 * n ∧ Crs n l i y) → Ev (fun k => pomaderef07_Diagram.l2 k l (n : Int) (i : Int) (x : Int)) 2 := by
  induction d with
  | zero => intro x hx ⟨y, a, b, _⟩; omega
  | succ d ih =>
    intro x hx ⟨y, a, b, e⟩
    by_cases c : Crs n l i x
    · exact Ev.step (f := fun _ => some 2) (fun k => by rw [dia_l2 hn h i x hi (by omega) k, if_pos c]) (Ev.now _)
    · refine Ev.step (fun k => by rw [dia_l2 hn h i x hi (by omega) k, if_neg c]) (ih (x + 1) (by omega) ⟨y, ?_, b, e⟩)
      have : y ≠ x := fun q => c (q ▸ e)
      omega
theorem dia_l2_miss {n : Nat} {l : List Int} (hn : n ≤ 1000) (h : LM n l) (i : Nat) (hi : i < 2 * n) {r : Int} (hr : Ev (fun k => pomaderef07_Diagram.l1 k l (n : Int) ((i + 1 : Nat) : Int)) r) (d : Nat) : ∀ x, x + d = 2 * n → (∀ y, x ≤ y → y < 2 * n → ¬ Crs n l i y) → Ev (fun k => pomaderef07_Diagram.l2 k l (n : Int) (i : Int) (x : Int)) r := by
  have hl := h.len
  induction d with
  | zero =>
    intro x hx _
    refine Ev.step (fun k => ?_) hr
    simp only [pomaderef07_Diagram.l2]
    rw [if_neg (by omega), pw64 (by omega) (by omega)]; rfl
  | succ d ih =>
    intro x hx hc
    exact Ev.step (fun k => by rw [dia_l2 hn h i x hi (by omega) k, if_neg (hc x (by omega) (by omega))]) (ih (x + 1) (by omega) (fun y a b => hc y (by omega) b))
theorem dia_l1_hit {n : Nat} {l : List Int} (hn : n ≤ 1000) (h : LM n l) (d : Nat) : ∀ i, i + d = 2 * n → (∃ j, i ≤ j ∧ j < 2 * n ∧ ∃ y, y < 2 * n ∧ Crs n l j y) → Ev (fun k => pomaderef07_Diagram.l1 k l (n : Int) (i : Int)) 2 := by
  have hl := h.len
  induction d with
  | zero => intro x hx ⟨y, a, b, _⟩; omega
  | succ d ih =>
    intro i hi ⟨j, a, b, y, e, f⟩
    refine Ev.step (f := fun k => pomaderef07_Diagram.l2 k l (n : Int) (i : Int) ((0 : Nat) : Int)) (fun k => by simp only [pomaderef07_Diagram.l1]; rw [if_pos (by omega)]; rfl) ?_
    by_cases c : ∃ y, y < 2 * n ∧ Crs n l i y
    · obtain ⟨y, c1, c2⟩ := c
      exact dia_l2_hit hn h i (by omega) (2 * n) 0 (by omega) ⟨y, by omega, c1, c2⟩
    · refine dia_l2_miss hn h i (by omega) (ih (i + 1) (by omega) ⟨j, ?_, b, y, e, f⟩) (2 * n) 0 (by omega) (fun y _ g k => c ⟨y, g, k⟩)
      have : j ≠ i := fun q => c ⟨y, e, q ▸ f⟩
      omega
theorem dia_l1_miss {n : Nat} {l : List Int} (hn : n ≤ 1000) (h : LM n l) (hc : ∀ i k, i < 2 * n → k < 2 * n → ¬ Crs n l i k) (d : Nat) : ∀ i, i + d = 2 * n → Ev (fun k => pomaderef07_Diagram.l1 k l (n : Int) (i : Int)) 0 := by
  have hl := h.len
  induction d with
  | zero =>
    intro i hi
    refine Ev.step (f := fun _ => some 0) (fun k => ?_) (Ev.now _)
    simp only [pomaderef07_Diagram.l1]
    rw [if_neg (by omega)]
  | succ d ih =>
    intro i hi
    refine Ev.step (f := fun k => pomaderef07_Diagram.l2 k l (n : Int) (i : Int) ((0 : Nat) : Int)) (fun k => by simp only [pomaderef07_Diagram.l1]; rw [if_pos (by omega)]; rfl) ?_
    exact dia_l2_miss hn h i (by omega) (ih (i + 1) (by omega)) (2 * n) 0 (by omega) (fun y _ g => hc i y (by omega) g)
theorem dia_l0 {l : List Int} {n : Nat} (x : Nat) (hx : x < l.length) (hl : l.length ≤ 1000) (k : Nat) : (bad l x → pomaderef07_Diagram.l0 (k + 1) l (n : Int) (x : Int) = some 2) ∧ (¬ bad l x → pomaderef07_Diagram.l0 (k + 1) l (n : Int) (x : Int) = pomaderef07_Diagram.l0 k l (n : Int) ((x + 1 : Nat) : Int)) := by
  have e1 : wrap64 ((x : Int) + 1) = ((x + 1 : Nat) : Int) := by rw [pw64 (by omega) (by omega)]; rfl
  simp only [pomaderef07_Diagram.l0]
  rw [if_pos (by omega), if_pos (by omega), e1]
  unfold bad
  by_cases c1 : rd l (x : Int) < 0
  · rw [if_pos c1]; exact ⟨fun _ => rfl, fun h => absurd (.inl c1) h⟩
  · rw [if_neg c1]
    by_cases c2 : rd l (x : Int) ≥ (l.length : Int)
    · rw [if_pos c2]; exact ⟨fun _ => rfl, fun h => absurd (.inr (.inl c2)) h⟩
    · rw [if_neg c2]
      by_cases c3 : rd l (x : Int) = (x : Int)
      · rw [if_pos c3]; exact ⟨fun _ => rfl, fun h => absurd (.inr (.inr (.inl c3))) h⟩
      · rw [if_neg c3, if_pos (by omega), if_pos (by omega)]
        by_cases c4 : rd l (rd l (x : Int)) = (x : Int)
        · rw [if_pos c4]; exact ⟨fun h => by omega, fun _ => rfl⟩
        · rw [if_neg c4]; exact ⟨fun _ => rfl, fun h => absurd (.inr (.inr (.inr c4))) h⟩
theorem dia_l0_hit {l : List Int} {n : Nat} (hl : l.length ≤ 1000) (d : Nat) : ∀ x, x + d = l.length → (∃ y, x ≤ y ∧ y < l.length ∧ bad l y) → Ev (fun k => pomaderef07_Diagram.l0 k l (n : Int) (x : Int)) 2 := by
  induction d with
  | zero => intro x hx ⟨y, a, b, _⟩; omega
  | succ d ih =>
    intro x hx ⟨y, a, b, e⟩
    by_cases c : bad l x
    · exact Ev.step (f := fun _ => some 2) (fun k => (dia_l0 x (by omega) hl k).1 c) (Ev.now _)
    · refine Ev.step (fun k => (dia_l0 x (by omega) hl k).2 c) (ih (x + 1) (by omega) ⟨y, ?_, b, e⟩)
      have : y ≠ x := fun q => c (q ▸ e)
      omega
theorem dia_l0_miss {l : List Int} {n : Nat} (hl : l.length ≤ 1000) (h : ∀ y, y < l.length → ¬ bad l y) {r : Int} (hr : Ev (fun k => pomaderef07_Diagram.l1 k l (n : Int) ((0 : Nat) : Int)) r) (d : Nat) : ∀ x, x + d = l.length → Ev (fun k => pomaderef07_Diagram.l0 k l (n : Int) (x : Int)) r := by
  induction d with
  | zero =>
    intro x hx
    refine Ev.step (fun k => ?_) hr
    simp only [pomaderef07_Diagram.l0]
    rw [if_neg (by omega)]; rfl
  | succ d ih =>
    intro x hx
    exact Ev.step (fun k => (dia_l0 x (by omega) hl k).2 (h x (by omega))) (ih (x + 1) (by omega))
theorem dia_odd {l : List Int} (hl : l.length ≤ 20) (h : l.length % 2 = 1 ∨ l.length = 0) : Ev (fun k => pomaderef07_Diagram.f k l) 2 := by
  have e : wrap64 ((l.length : Int) / 2) = (l.length : Int) / 2 := pw64 (by omega) (by omega)
  refine Ev.congr (f := fun k => pomaderef07_Diagram.j0 k l ((l.length : Int) / 2) true) (fun k => ?_) (Ev.step (f := fun _ => some 2) (fun k => ?_) (Ev.now _))
  · unfold pomaderef07_Diagram.f
    rw [if_neg (by omega), e]
    by_cases c : (l.length : Int) / 2 < 1
    · rw [if_pos c]
    · rw [if_neg c]
      congr 1
      have : (l.length : Int) % 2 = 1 := by omega
      rw [this]; rfl
  · simp only [pomaderef07_Diagram.j0]
    rw [if_pos trivial]
theorem dia_even {l : List Int} {n : Nat} (hn : 0 < n) (hn2 : n ≤ 10) (hl : l.length = 2 * n) {r : Int} (hr : Ev (fun k => pomaderef07_Diagram.l0 k l (n : Int) ((0 : Nat) : Int)) r) : Ev (fun k => pomaderef07_Diagram.f k l) r := by
  have e : wrap64 ((l.length : Int) / 2) = (n : Int) := by rw [pw64 (by omega) (by omega)]; omega
  refine Ev.congr (f := fun k => pomaderef07_Diagram.j0 k l (n : Int) false) (fun k => ?_) (Ev.step (fun k => ?_) hr)
  · unfold pomaderef07_Diagram.f
    rw [if_neg (by omega), e, if_neg (by omega)]
    congr 1
    have : (l.length : Int) % 2 = 0 := by omega
    rw [this]; rfl
  · simp only [pomaderef07_Diagram.j0]
    rw [if_neg (by decide)]; rfl
/-- what the program and the specification say of a list -/
theorem dia_both (l : List Int) : ∃ e : Int, Ev (fun k => plait_of.f k l) e ∧ Ev (fun k => pomaderef07_Diagram.f k l) e ∧ ((e = 3 ∧ l.length > 20) ∨ (e = 2 ∧ l.length ≤ 20) ∨ (e = 0 ∧ ∃ n, Dia n l ∧ Ev (fun k => plait_diagram_arches.f k l) (strOfNums (brk n l), true))) := by
  by_cases c0 : l.length > 20
  · refine ⟨3, Ev.congr (fun k => ?_) (Ev.now _), Ev.congr (fun k => ?_) (Ev.now _), .inl ⟨rfl, c0⟩⟩
    · unfold plait_of.f; rw [if_pos (by omega)]
    · unfold pomaderef07_Diagram.f; rw [if_pos (by omega)]
  · have ofs : ∀ s b, Ev (fun k => plait_diagram_arches.f k l) (s, b) → Ev (fun k => plait_of.f k l) (if b = true then 0 else 2) := by
      intro s b hs
      refine Ev.congr (fun k => by unfold plait_of.f; rw [if_neg (by omega)]) (Ev.bind hs ?_)
      cases b with
      | true => exact Ev.now _
      | false => exact Ev.now _
    by_cases c1 : l.length % 2 = 1 ∨ l.length = 0
    · exact ⟨2, ofs _ _ (arches_odd c1), dia_odd (by omega) c1, .inr (.inl ⟨rfl, by omega⟩)⟩
    · obtain ⟨n, hn⟩ : ∃ n, l.length = 2 * n := ⟨l.length / 2, by omega⟩
      have hp : 0 < n := by omega
      by_cases c2 : ∃ y, y < l.length ∧ bad l y
      · obtain ⟨y, a, b⟩ := c2
        refine ⟨2, ofs _ _ (arches_start (by omega) hp hn (arch_bad (by omega) hn (2 * n) 0 [] [] (by omega) (by simp) (by simp) ⟨bo n y, by omega, bo_lt (by omega), by rw [bo_bo (by omega)]; exact b⟩)), dia_even hp (by omega) hn (dia_l0_hit (by omega) l.length 0 (by omega) ⟨y, by omega, a, b⟩), .inr (.inl ⟨rfl, by omega⟩)⟩
      · have hbad : ∀ y, y < l.length → ¬ bad l y := fun y a b => c2 ⟨y, a, b⟩
        have hL := lm_of hn (fun p hp => hbad p (by omega))
        have hr := arches_start (by omega) hp hn (arch_run (by omega) hL (2 * n) 0 [] [] (by omega) (fun y hy => by cases hy) (by simp) (by simp))
        have hD := db_pair hL
        by_cases c3 : NCD (2 * n) (Db n l)
        · have e1 := (run_iff hD).2 c3
          have e2 := rout_nc hD c3 (2 * n) 0 [] (by omega) ⟨trivial, fun z => ⟨fun hz => (by cases hz), fun hz => by omega⟩⟩
          rw [List.isEmpty_iff.2 e1, List.nil_append] at hr
          simp only [List.range_zero, List.map_nil, List.nil_append] at e2
          rw [e2] at hr
          exact ⟨0, ofs _ _ hr, dia_even hp (by omega) hn (dia_l0_miss (by omega) hbad (dia_l1_miss (by omega) hL (crs_nc.1 c3) (2 * n) 0 (by omega)) l.length 0 (by omega)), .inr (.inr ⟨rfl, n, ⟨hp, by omega, hL, c3⟩, hr⟩)⟩
        · rw [List.isEmpty_eq_false_iff.2 (fun e => c3 ((run_iff hD).1 e))] at hr
          have hc : ∃ i, i < 2 * n ∧ ∃ k, k < 2 * n ∧ Crs n l i k := by
            refine Classical.byContradiction fun e => c3 (crs_nc.2 (fun i k hi hk c => e ⟨i, hi, k, hk, c⟩))
          obtain ⟨i, hi, k, hk, c⟩ := hc
          exact ⟨2, ofs _ _ hr, dia_even hp (by omega) hn (dia_l0_miss (by omega) hbad (dia_l1_hit (by omega) hL (2 * n) 0 (by omega) ⟨i, by omega, hi, k, hk, c⟩) l.length 0 (by omega)), .inr (.inl ⟨rfl, by omega⟩)⟩
end Go.Proofs.Ytjfkompfkgjdaaa.L
end
section
/- Product by the program; equal lists are the same. -/
namespace Go.Proofs.Ytjfkompfkgjdaaa.L
open Go.RowKit Go.Proofs.Ytjfkompfkgjdaaa.PC Go.Proofs.YtjfkompfkgjdaaaW.PrintWords Go.Proofs.YtjfkompfkgjdaaaW.PrintLast Go.Proofs.Ytjfkompfkgjdaaa.G
theorem same_l0 {a : List Int} (ha : a.length ≤ 1000000) (d : Nat) : ∀ i, i + d = a.length → Ev (fun k => pomadelaw07_same.l0 k a a (i : Int)) true := by
  induction d with
  | zero =>
    intro i hi
    refine Ev.step (f := fun _ => some true) (fun k => ?_) (Ev.now _)
    simp only [pomadelaw07_same.l0]
    rw [if_neg (by omega)]
  | succ d ih =>
    intro i hi
    refine Ev.step (fun k => ?_) (ih (i + 1) (by omega))
    simp only [pomadelaw07_same.l0]
    rw [if_pos (by omega), if_pos (by omega), if_pos (by omega), if_pos trivial, pw64 (by omega) (by omega)]
    rfl
theorem same_ev {a : List Int} (ha : a.length ≤ 1000000) : Ev (fun k => pomadelaw07_same.f k a a) true :=
  Ev.congr (fun k => by unfold pomadelaw07_same.f; rw [if_pos rfl]; rfl) (same_l0 ha a.length 0 (by omega))
theorem Dia.two {n m : Nat} {a : List Int} (h : Dia n a) (k : Dia m a) : n = m := by
  have h1 := h.lm.len
  have h2 := k.lm.len
  omega
end Go.Proofs.Ytjfkompfkgjdaaa.L
end
section
namespace Go.Proofs.Ytjfkompfkgjdaaa.PC
open Go.RowKit Go.Proofs.YtjfkompfkgjdaaaW.PrintWords Go.Proofs.YtjfkompfkgjdaaaW.PrintLast Go.Proofs.YtjfkompfkgjdaaaW.PrintMore
attribute [local go_sem] max2_int min2_int max_two min_two max_three min_three max_four min_four   -- for this text's walks alone
set_option linter.unusedVariables false
set_option linter.unusedSimpArgs false
end Go.Proofs.Ytjfkompfkgjdaaa.PC
end
section
/- The identity, by the program and by the specification. -/
namespace Go.Proofs.Ytjfkompfkgjdaaa.L
open Go.RowKit Go.Proofs.Ytjfkompfkgjdaaa.PC Go.Proofs.YtjfkompfkgjdaaaW.PrintWords Go.Proofs.YtjfkompfkgjdaaaW.PrintLast Go.Proofs.Ytjfkompfkgjdaaa.G
/-- every point with the one across -/
def idf (n z : Nat) : Nat := if z < n then z + n else z - n
theorem idf_mat {n : Nat} : Mat n (idf n) := by
  intro z hz
  unfold idf
  by_cases c : z < n
  · rw [if_pos c, if_neg (by omega)]; omega
  · rw [if_neg c, if_pos (by omega)]; omega
end Go.Proofs.Ytjfkompfkgjdaaa.L
end
section
/- Three matchings on top of one another; other names: plain. -/
namespace Go.Proofs.Ytjfkompfkgjdaaa.G
theorem prs_map (F f g : Nat → Nat) (k : Nat) : (prs f g k).map (fun p => (F p.1, F p.2)) = prs (fun i => F (f i)) (fun i => F (g i)) k := by
  induction k with
  | zero => rfl
  | succ k ih => simp only [prs, List.map_cons, ih]
theorem prs_congr {f g f' g' : Nat → Nat} (k : Nat) (h : ∀ i, i < k → f i = f' i ∧ g i = g' i) : prs f g k = prs f' g' k := by
  induction k with
  | zero => rfl
  | succ k ih =>
    have := h k (by omega)
    simp only [prs, ih (fun i hi => h i (by omega)), this.1, this.2]
theorem prs_mem {f g : Nat → Nat} {k : Nat} {p : Nat × Nat} (h : p ∈ prs f g k) : ∃ i, i < k ∧ p = (f i, g i) := by
  induction k with
  | zero => cases h
  | succ k ih =>
    rcases List.mem_cons.1 h with rfl | h
    · exact ⟨k, by omega, rfl⟩
    · obtain ⟨i, a, b⟩ := ih h; exact ⟨i, by omega, b⟩
theorem prs_flip {f g : Nat → Nat} (k : Nat) : ∀ σ : Nat → Nat, Inv2 σ → OK σ (prs f g k) → glue (prs g f k) σ = glue (prs f g k) σ := by
  induction k with
  | zero => intro σ _ _; rfl
  | succ k ih =>
    intro σ hi h
    obtain ⟨h0, h1, h2, h3, h4, h5⟩ := h
    have e := con_swap (f k) (g k) hi h0
    simp only [prs, glue]
    rw [← e.1, ← e.2, ih _ (con_inv hi h1 h2 h0) (h5.con hi h0 h3 h4)]
theorem OK.app {σ : Nat → Nat} {l l' : List (Nat × Nat)} (h : OK σ l) (h' : OK σ l') (hd : ∀ z, pts l z → ¬ pts l' z) : OK σ (l ++ l') := by
  induction l with
  | nil => exact h'
  | cons p l ih =>
    obtain ⟨x, y⟩ := p
    obtain ⟨h0, h1, h2, h3, h4, h5⟩ := h
    have pa : ∀ z, pts (l ++ l') z → pts l z ∨ pts l' z := fun z ⟨p, m, e⟩ => (List.mem_append.1 m).elim (fun m => .inl ⟨p, m, e⟩) (fun m => .inr ⟨p, m, e⟩)
    refine ⟨h0, h1, h2, fun q => ?_, fun q => ?_, ih h5 (fun z hz => hd z ((pts_cons _ _ _ _).2 (.inr (.inr hz))))⟩
    · exact (pa _ q).elim h3 (hd x ((pts_cons _ _ _ _).2 (.inl rfl)))
    · exact (pa _ q).elim h4 (hd y ((pts_cons _ _ _ _).2 (.inr (.inl rfl))))
theorem glue_ok (l l' : List (Nat × Nat)) : ∀ σ : Nat → Nat, Inv2 σ → OK σ (l ++ l') → OK (glue l σ).1 l' := by
  induction l with
  | nil => intro σ _ h; exact h
  | cons p l ih =>
    obtain ⟨x, y⟩ := p
    intro σ hi h
    obtain ⟨h0, h1, h2, h3, h4, h5⟩ := h
    exact ih _ (con_inv hi h1 h2 h0) (OK.con hi h0 h3 h4 h5)
/-! ### three on top of one another -/
end Go.Proofs.Ytjfkompfkgjdaaa.G
end
section
/- The identity in products; a product of matchings without crossings has none: plain. -/
namespace Go.Proofs.Ytjfkompfkgjdaaa.G
/-! ### the identity -/
def idf (n z : Nat) : Nat := if z < n then z + n else z - n
theorem idf_mat {n : Nat} : Mat n (idf n) := by
  intro z hz
  unfold idf
  by_cases c : z < n
  · rw [if_pos c, if_neg (by omega)]; omega
  · rw [if_neg c, if_pos (by omega)]; omega
theorem idf_lo {n z : Nat} (h : z < n) : idf n z = n + z := by unfold idf; rw [if_pos h]; omega
theorem cntP_none {P : Nat → Prop} (k : Nat) (h : ∀ i, i < k → ¬ P i) : cntP P k = 0 := by
  induction k with
  | zero => rfl
  | succ k ih => simp only [cntP]; rw [ih (fun i hi => h i (by omega)), if_neg (h k (by omega))]
/-! ### a product of diagrams without crossings has none -/
def bo (n i : Nat) : Nat := if i < n then i else 3 * n - 1 - i
end Go.Proofs.Ytjfkompfkgjdaaa.G
end
section
/- Products of diagrams are diagrams; three in a row; the identity. -/
namespace Go.Proofs.Ytjfkompfkgjdaaa.L
open Go.RowKit Go.Proofs.Ytjfkompfkgjdaaa.PC Go.Proofs.YtjfkompfkgjdaaaW.PrintWords Go.Proofs.YtjfkompfkgjdaaaW.PrintLast Go.Proofs.Ytjfkompfkgjdaaa.G
theorem Ev.det {α : Type} {g : Nat → Option α} {r s : α} (h : Ev g r) (k : Ev g s) : r = s := by
  obtain ⟨K, h⟩ := h
  obtain ⟨L, k⟩ := k
  have a := h (max K L) (Nat.le_max_left ..)
  have b := k (max K L) (Nat.le_max_right ..)
  rw [a] at b
  exact Option.some.inj b
theorem dia_ref {n : Nat} {l : List Int} (h : Dia n l) : Ev (fun k => pomaderef07_Diagram.f k l) 0 := by
  have hl := h.lm.len
  have hn := h.lim
  refine dia_even h.pos hn hl (dia_l0_miss (by omega) (fun y hy => h.lm.good (by omega)) (dia_l1_miss (by omega) h.lm (crs_nc.1 h.nc) (2 * n) 0 (by omega)) l.length 0 (by omega))
theorem dia_yes {n : Nat} {l : List Int} (h : Dia n l) : Ev (fun k => plait_of.f k l) 0 ∧ Ev (fun k => pomaderef07_Diagram.f k l) 0 ∧ Ev (fun k => plait_diagram_arches.f k l) (strOfNums (brk n l), true) := by
  obtain ⟨e, h1, h2, h3⟩ := dia_both l
  have e0 := Ev.det h2 (dia_ref h)
  subst e0
  rcases h3 with c | c | ⟨_, m, d, h3⟩
  · omega
  · omega
  · obtain rfl := h.two d
    exact ⟨h1, h2, h3⟩
theorem dia_of {l : List Int} (h : Ev (fun k => pomaderef07_Diagram.f k l) 0) : ∃ n, Dia n l := by
  obtain ⟨e, h1, h2, h3⟩ := dia_both l
  have e0 := Ev.det h2 h
  subst e0
  rcases h3 with c | c | ⟨_, m, d, h3⟩
  · omega
  · omega
  · exact ⟨m, d⟩
/-! ### the product depends on the points of the matchings alone -/
end Go.Proofs.Ytjfkompfkgjdaaa.L
end
section
/- Closed curves: the trace of a product, and how many there can be: plain. -/
namespace Go.Proofs.Ytjfkompfkgjdaaa.G
/-! ### closed: every point with the one across -/
def ext (n : Nat) (d : Nat → Nat) (z : Nat) : Nat := if z < 2 * n then d z else z
theorem ext_lo {n : Nat} {d : Nat → Nat} {z : Nat} (h : z < 2 * n) : ext n d z = d z := by unfold ext; rw [if_pos h]
theorem ext_off {n : Nat} {d : Nat → Nat} {z : Nat} (h : 2 * n ≤ z) : ext n d z = z := by unfold ext; rw [if_neg (by omega)]
theorem ext_inv {n : Nat} {d : Nat → Nat} (hd : Mat n d) : Inv2 (ext n d) := by
  intro z
  by_cases c : z < 2 * n
  · rw [ext_lo c, ext_lo (hd z c).1, (hd z c).2.2]
  · rw [ext_off (z := z) (by omega), ext_off (by omega)]
def acr (n : Nat) : List (Nat × Nat) := prs (fun i => i) (fun i => n + i) n
theorem acr_ok {n : Nat} {d : Nat → Nat} (hd : Mat n d) : OK (ext n d) (acr n) :=
  prs_ok n (fun i j _ _ => by omega) (fun i hi => ⟨by rw [ext_lo (by omega)]; exact (hd i (by omega)).2.1, by rw [ext_lo (by omega)]; exact (hd _ (by omega)).2.1⟩)
/-- how many closed curves -/
def cls (n : Nat) (d : Nat → Nat) : Nat := (glue (acr n) (ext n d)).2
theorem acr_tau {n : Nat} {d : Nat → Nat} (hd : Mat n d) {z : Nat} (hz : z < 2 * n) : tau (acr n) z = idf n z := by
  unfold idf
  by_cases c : z < n
  · rw [if_pos c]
    have := (tau_prs n (acr_ok hd) z c).1
    rw [Nat.add_comm z n]; exact this
  · rw [if_neg c]
    have : tau (acr n) (n + (z - n)) = z - n := (tau_prs n (acr_ok hd) (z - n) (by omega)).2
    rwa [show n + (z - n) = z by omega] at this
/-- the steps of the walk, on the points -/
theorem conn_ext {n : Nat} {d : Nat → Nat} (hd : Mat n d) {x y : Nat} (hx : x < 2 * n) : Conn (ext n d) (tau (acr n)) x y ↔ Conn d (idf n) x y := by
  have hi := @idf_mat n
  constructor
  · intro h
    have : Conn d (idf n) x y ∧ y < 2 * n := by
      induction h with
      | refl => exact ⟨.refl, hx⟩
      | s y _ ih => rw [ext_lo ih.2]; exact ⟨.s _ ih.1, (hd y ih.2).1⟩
      | t y _ ih => rw [acr_tau hd ih.2]; exact ⟨.t _ ih.1, (hi y ih.2).1⟩
    exact this.1
  · intro h
    have : Conn (ext n d) (tau (acr n)) x y ∧ y < 2 * n := by
      induction h with
      | refl => exact ⟨.refl, hx⟩
      | s y _ ih => have := Conn.s _ ih.1; rw [ext_lo ih.2] at this; exact ⟨this, (hd y ih.2).1⟩
      | t y _ ih => have := Conn.t _ ih.1; rw [acr_tau hd ih.2] at this; exact ⟨this, (hi y ih.2).1⟩
    exact this.1
theorem conn_lt {n : Nat} {d e : Nat → Nat} (hd : Mat n d) (he : Mat n e) {x y : Nat} (hx : x < 2 * n) (h : Conn d e x y) : y < 2 * n := by
  induction h with
  | refl => exact hx
  | s y _ ih => exact (hd y ih).1
  | t y _ ih => exact (he y ih).1
theorem conn_symm {n : Nat} {d e : Nat → Nat} (hd : Mat n d) (he : Mat n e) {x y : Nat} (hx : x < 2 * n) (h : Conn d e x y) : Conn d e y x := by
  induction h with
  | refl => exact .refl
  | s y h ih =>
    have := conn_lt hd he hx h
    have s := Conn.s (σ := d) (τ := e) (x := d y) _ .refl
    rw [(hd y this).2.2] at s
    exact s.trans ih
  | t y h ih =>
    have := conn_lt hd he hx h
    have s := Conn.t (σ := d) (τ := e) (x := e y) _ .refl
    rw [(he y this).2.2] at s
    exact s.trans ih
theorem cntP_add (P : Nat → Prop) (m k : Nat) : cntP P (m + k) = cntP P m + cntP (fun i => P (m + i)) k := by
  induction k with
  | zero => rfl
  | succ k ih => rw [← Nat.add_assoc]; simp only [cntP]; rw [ih]; omega
/-- the program's count: the first points of the curves -/
theorem cls_fst {n : Nat} {d : Nat → Nat} (hd : Mat n d) : cls n d = cntP (Fst (fun z => z < 2 * n) d (idf n)) (2 * n) := by
  have hi := @idf_mat n
  unfold cls acr
  rw [glue_count _ _ _ _ (ext_inv hd) (acr_ok hd), show 2 * n = n + n by omega, cntP_add]
  have hz : cntP (fun i => Fst (fun z => z < 2 * n) d (idf n) (n + i)) n = 0 := cntP_none n (fun i hik h => by
    have := h.2 i (by omega) (by omega)
    have c := Conn.t (σ := d) (τ := idf n) (x := i) _ .refl
    rw [idf_lo hik] at c
    exact this c)
  rw [show n + n = 2 * n by omega] at *
  rw [hz, Nat.add_zero]
  refine cntP_congr n (fun j hj => ?_)
  constructor
  · intro m
    refine ⟨by omega, fun i hij hi2 c => ?_⟩
    have c' := conn_symm hd hi (by omega) c
    obtain ⟨i', a, b, e⟩ := m i (show Conn (ext n d) (tau (acr n)) j i from (conn_ext hd (by omega)).2 c')
    have e : i = i' ∨ i = n + i' := e
    omega
  · intro ⟨_, hf⟩ z hz
    have c : Conn d (idf n) j z := (conn_ext hd (by omega)).1 hz
    have hz2 := conn_lt hd hi (by omega) c
    have le : ∀ z, Conn d (idf n) j z → z < 2 * n → j ≤ z := fun z c hz => Classical.byContradiction fun h => hf z (by omega) hz (conn_symm hd hi (by omega) c)
    by_cases q : z < n
    · exact ⟨z, le z c hz2, q, .inl rfl⟩
    · have c2 := Conn.t _ c
      have e : idf n z = z - n := by unfold idf; rw [if_neg q]
      rw [e] at c2
      exact ⟨z - n, le _ c2 (by omega), by omega, .inr (show z = n + (z - n) by omega)⟩
/-- the trace: the curves of a product closed, with its loops, are those of both in a ring -/
theorem trace {n : Nat} {a b : Nat → Nat} (ha : Mat n a) (hb : Mat n b) : cls n (prod n a b) + lops n a b = cls n (prod n b a) + lops n b a := by
  have ring : ∀ {a b : Nat → Nat}, Mat n a → Mat n b → cls n (prod n a b) + lops n a b = (glue (mids n ++ prs (fun i => i) (fun i => 3 * n + i) n) (jn n a b)).2 := by
    intro a b ha hb
    have hp := prod_mat ha hb
    have hF : ∀ u v, u < 2 * n → v < 2 * n → emb n u = emb n v → u = v := fun u v _ _ e => by have := congrArg (une n) e; rwa [une_emb, une_emb] at this
    have h : Emb (2 * n) (emb n) (ext n (prod n a b)) (glue (mids n) (jn n a b)).1 := fun z hz => by
      rw [ext_lo hz]
      exact ⟨(hp z hz).1, (prod_emb ha hb hz).1.symm⟩
    have g := (glue_emb hF (acr n) h (fun p hp => by obtain ⟨i, hi, rfl⟩ := prs_mem hp; dsimp only; omega)).2
    have e : (acr n).map (fun p => (emb n p.1, emb n p.2)) = prs (fun i => i) (fun i => 3 * n + i) n := by
      unfold acr
      rw [prs_map]
      exact prs_congr n (fun i hi => by unfold emb; rw [if_pos hi, if_neg (by omega)]; omega)
    rw [e] at g
    rw [glue_app]
    show _ = _ + (glue (mids n) (jn n a b)).2
    rw [g]
    rfl
  rw [ring ha hb, ring hb ha]
  let S : Nat → Nat := fun z => if z < 2 * n then 2 * n + z else z - 2 * n
  have hS : ∀ u v, u < 4 * n → v < 4 * n → S u = S v → u = v := by
    intro u v hu hv e
    simp only [S] at e
    split at e <;> split at e <;> omega
  have eS : Emb (4 * n) S (jn n b a) (jn n a b) := fun z hz => ⟨jn_lt hb ha hz, by
    rcases @jn_cases n z with h | ⟨y, h, rfl⟩ | h
    · have := (hb z h).1
      simp only [S]; rw [jn_lo h, if_pos h, if_pos this, jn_hi h]
    · have := (ha y h).1
      simp only [S]; rw [jn_hi h, if_neg (by omega), if_neg (by omega), Nat.add_sub_cancel_left, Nat.add_sub_cancel_left, jn_lo h]
    · omega⟩
  have g := (glue_emb hS (mids n ++ prs (fun i => i) (fun i => 3 * n + i) n) eS (fun p hp => by
    rcases List.mem_append.1 hp with hp | hp
    · obtain ⟨i, hi, rfl⟩ := prs_mem hp; simp only [up, dn]; omega
    · obtain ⟨i, hi, rfl⟩ := prs_mem hp; dsimp only; omega)).2
  rw [← g, List.map_append]
  have e1 : (mids n).map (fun p => (S p.1, S p.2)) = prs (fun i => 3 * n + i) (fun i => i) n := by
    unfold mids
    rw [prs_map]
    exact prs_congr n (fun i hi => by simp only [S, up, dn]; rw [if_pos (by omega), if_neg (by omega)]; omega)
  have e2 : (prs (fun i => i) (fun i => 3 * n + i) n).map (fun p => (S p.1, S p.2)) = prs (dn n) (up n) n := by
    rw [prs_map]
    exact prs_congr n (fun i hi => by simp only [S, up, dn]; rw [if_pos (by omega), if_neg (by omega)]; omega)
  rw [e1, e2]
  have hi := jn_inv ha hb
  have okM := mids_ok ha hb
  have okO : OK (jn n a b) (prs (fun i => i) (fun i => 3 * n + i) n) := prs_ok n (fun i j _ _ => by omega) (fun i hi => ⟨(jn_alive ha hb).2 (by omega), (jn_alive ha hb).2 (by omega)⟩)
  have okMO : OK (jn n a b) (mids n ++ prs (fun i => i) (fun i => 3 * n + i) n) := okM.app okO (fun z h1 h2 => by
    have := mids_pts.1 h1
    obtain ⟨i, h, e⟩ := (pts_prs _ _ _ _).1 h2
    omega)
  obtain ⟨same, okOM⟩ := glue_perm (List.perm_append_comm (l₁ := mids n) (l₂ := prs (fun i => i) (fun i => 3 * n + i) n)) _ hi okMO
  rw [same, glue_app, glue_app]
  have f1 := prs_flip n _ hi okO
  rw [f1]
  have ok2 := glue_ok _ _ _ hi okOM
  have f2 := prs_flip n _ (glue_inv _ _ hi okO) ok2
  rw [f2]
  rfl
/-! ### halves -/
open Classical in
theorem pairs_of {N : Nat} {A : Nat → Nat} (hA : PairN N A) : Pairs (fun z => z < N) A := ⟨fun m h => (hA m h).1, fun m h => (hA m h).2.1, fun m h => (hA m h).2.2⟩
end Go.Proofs.Ytjfkompfkgjdaaa.G
end
section
/- The numbers of closed curves that the program counts: of a diagram, and of two arch systems. -/
namespace Go.Proofs.Ytjfkompfkgjdaaa.L
open Go.RowKit Go.Proofs.Ytjfkompfkgjdaaa.PC Go.Proofs.YtjfkompfkgjdaaaW.PrintWords Go.Proofs.YtjfkompfkgjdaaaW.PrintLast Go.Proofs.Ytjfkompfkgjdaaa.G
/-- a list that pairs the points below N -/
structure PL (N : Nat) (o : List Int) : Prop where
  len : o.length = N
  nn : ∀ z : Nat, z < N → rd o (z : Int) = (fn o z : Int)
  pair : PairN N (fn o)
theorem LM.pl {n : Nat} {l : List Int} (h : LM n l) : PL (2 * n) l := ⟨h.len, h.nn, h.mat⟩
abbrev UN (N : Nat) : Nat → Prop := fun z => z < N
/-! ### two arch systems -/
theorem no_mark (N m : Nat) : ¬ bM (List.replicate N false) m := fun h => by
  unfold bM at h
  rw [List.getD_eq_getElem?_getD, List.getElem?_replicate] at h
  split at h <;> simp at h
/-! ### a diagram, closed -/
theorem down_val {n : Nat} (h0 : 0 < n) (hn : n ≤ 500) {l : List Int} (hl : l.length = 2 * n) {q : Nat} (hq : q < 2 * n) : plait_diagram_down.f l (q : Int) = some (G.idf n q : Int) := by
  unfold plait_diagram_down.f plait_diagram_size.f
  rw [Option.bind_some, if_neg (by omega), pw64 (x := (l.length : Int) / 2) (by omega) (by omega), pw64 (by omega) (by omega), Int.tmod_eq_emod_of_nonneg (by omega)]
  congr 1
  unfold G.idf
  by_cases c : q < n
  · rw [if_pos c, Int.emod_eq_of_lt (by omega) (by omega)]; omega
  · rw [if_neg c, show (q : Int) + (l.length : Int) / 2 = ((q - n : Nat) : Int) + (l.length : Int) * 1 by omega, Int.add_mul_emod_self_left, Int.emod_eq_of_lt (by omega) (by omega)]
theorem closed_rnd {n : Nat} (h0 : 0 < n) (hn : n ≤ 500) {a : List Int} (ha : LM n a) (T0 : List Bool) (many : Int) (i : Nat) (hi : i < 2 * n) (c : Nat) : ∀ (at_ : Nat) (T : List Bool), T.count false ≤ c → T.length = 2 * n → Rd (UN (2 * n)) (fn a) (G.idf n) (bM T0) (bM T) i at_ →
    ∃ T', T'.length = 2 * n ∧ (∀ m, UN (2 * n) m → (bM T' m ↔ bM T0 m ∨ Conn (fn a) (G.idf n) i m)) ∧ ∀ r, Ev (fun k => plait_Closed.l0 k a T' many ((2 * n : Nat) : Int) ((i + 1 : Nat) : Int)) r → Ev (fun k => plait_Closed.l1 k a T many (at_ : Int) ((2 * n : Nat) : Int) (i : Int)) r := by
  have pa := pairs_of ha.pl.pair
  have pb := pairs_of (N := 2 * n) (A := G.idf n) G.idf_mat
  have la := ha.len
  have stop : ∀ (at_ : Nat) (T : List Bool), T.length = 2 * n → at_ < 2 * n → bM T at_ → ∀ r, Ev (fun k => plait_Closed.l0 k a T many ((2 * n : Nat) : Int) ((i + 1 : Nat) : Int)) r → Ev (fun k => plait_Closed.l1 k a T many (at_ : Int) ((2 * n : Nat) : Int) (i : Int)) r := by
    intro at_ T hT hat ht r hr
    refine Ev.step (fun k => ?_) hr
    simp only [plait_Closed.l1]
    rw [if_pos (by omega), if_pos (by omega), if_pos (show rdOf false T (at_ : Int) = true from ht), pw64 (by omega) (by omega)]
    rfl
  induction c with
  | zero =>
    intro at_ T hc hT hR
    have hat : at_ < 2 * n := hR.uc
    have ht : bM T at_ := by
      unfold bM
      cases e : T.getD at_ false with
      | true => rfl
      | false => exact absurd (Nat.le_zero.1 hc) (count_pos (by omega) e)
    exact ⟨T, hT, hR.fin pa pb ht, stop at_ T hT hat ht⟩
  | succ c ih =>
    intro at_ T hc hT hR
    have hat : at_ < 2 * n := hR.uc
    by_cases ht : bM T at_
    · exact ⟨T, hT, hR.fin pa pb ht, stop at_ T hT hat ht⟩
    · have hA : fn a at_ < 2 * n := (ha.mat at_ hat).1
      have hB : G.idf n (fn a at_) < 2 * n := (G.idf_mat _ hA).1
      have e := count_set T at_ (by omega) (by unfold bM at ht; simpa using ht)
      have e2 := count_set_le (T.set at_ true) (fn a at_)
      have bs : ∀ (T : List Bool) (x u : Nat), x < T.length → (bM (T.set x true) u ↔ bM T u ∨ u = x) := fun T x u h => getD_set T x u h
      have all : ∀ m, UN (2 * n) m → (bM ((T.set at_ true).set (fn a at_) true) m ↔ bM T m ∨ m = at_ ∨ m = fn a at_) := by
        intro m _
        rw [bs _ _ _ (by simp; omega), bs _ _ _ (by omega), or_assoc]
      obtain ⟨T', g1, g2, g3⟩ := ih (G.idf n (fn a at_)) _ (by omega) (by simpa using hT) (hR.step pa pb ht all)
      refine ⟨T', g1, g2, fun r hr => Ev.step (fun k => ?_) (g3 r hr)⟩
      simp only [plait_Closed.l1]
      rw [if_pos (by omega), if_pos (by omega), if_neg (show ¬ rdOf false T (at_ : Int) = true from ht), if_pos (by omega), ha.nn at_ hat, if_pos (by omega), if_pos (by omega), down_val h0 hn la hA, Option.bind_some]
      rfl
theorem closed_cnt {n : Nat} (h0 : 0 < n) (hn : n ≤ 500) {a : List Int} (ha : LM n a) (d : Nat) : ∀ (i : Nat) (T : List Bool), i + d = 2 * n → T.length = 2 * n → MetI (UN (2 * n)) (fn a) (G.idf n) i (bM T) →
    Ev (fun k => plait_Closed.l0 k a T (cntP (Fst (UN (2 * n)) (fn a) (G.idf n)) i : Int) ((2 * n : Nat) : Int) (i : Int)) ((cntP (Fst (UN (2 * n)) (fn a) (G.idf n)) (2 * n) : Int), 0) := by
  have pa := pairs_of ha.pl.pair
  have pb := pairs_of (N := 2 * n) (A := G.idf n) G.idf_mat
  induction d with
  | zero =>
    intro i T hi hT hM
    obtain rfl : i = 2 * n := by omega
    refine Ev.step (f := fun _ => some ((cntP (Fst (UN (2 * n)) (fn a) (G.idf n)) (2 * n) : Int), 0)) (fun k => ?_) (Ev.now _)
    simp only [plait_Closed.l0]
    rw [if_neg (by omega)]
  | succ d ih =>
    intro i T hi hT hM
    have hle := cntP_le (Fst (UN (2 * n)) (fn a) (G.idf n)) i
    by_cases c : bM T i
    · obtain ⟨m1, m2⟩ := hM.skip (fun _ => c)
      have := ih (i + 1) T (by omega) hT m1
      simp only [cntP] at this
      rw [if_neg m2] at this
      refine Ev.step (fun k => ?_) this
      simp only [plait_Closed.l0]
      rw [if_pos (by omega), if_pos (by omega), if_pos (by omega), if_pos (show rdOf false T (i : Int) = true from c), pw64 (by omega) (by omega)]
      rfl
    · have ui : UN (2 * n) i := by show i < 2 * n; omega
      obtain ⟨ca, cb⟩ := hM.closed pa pb
      obtain ⟨T', g1, g2, g3⟩ := closed_rnd h0 hn ha T (cntP (Fst (UN (2 * n)) (fn a) (G.idf n)) i + 1 : Nat) i (by omega) _ i T (Nat.le_refl _) hT (Rd.start pa pb ca cb ui c)
      obtain ⟨n1, n2⟩ := hM.round ui c g2
      have := ih (i + 1) T' (by omega) g1 n1
      simp only [cntP] at this
      rw [if_pos n2] at this
      refine Ev.step (fun k => ?_) (g3 _ this)
      simp only [plait_Closed.l0]
      rw [if_pos (by omega), if_pos (by omega), if_pos (by omega), if_neg (show ¬ rdOf false T (i : Int) = true from c), pw64 (by omega) (by omega)]
      rfl
theorem closed_val {n : Nat} {a : List Int} (ha : Dia n a) : Ev (fun k => plait_Closed.f k a) ((cls n (fn a) : Int), 0) := by
  have la := ha.lm.len
  have hn := ha.lim
  refine Ev.congr (fun k => rfl) (Ev.bind (dia_yes ha).1 ?_)
  rw [cls_fst ha.lm.mat]
  refine Ev.congr (fun k => ?_) (closed_cnt ha.pos (by omega) ha.lm (2 * n) 0 (List.replicate (2 * n) false) (by omega) (by simp) (fun m _ => ⟨fun h => absurd h (no_mark _ m), fun ⟨j, hj, _⟩ => by omega⟩))
  rw [if_pos rfl, if_pos (by omega), if_pos (by omega), la]
  rfl
/-! ### an arch system and its partners -/
structure Half (s : ByteArray) (q : Nat) (out op : List Int) : Prop where
  len : out.length = s.size
  srt : op.Pairwise (· < ·)
  opn : ∀ x ∈ op, 0 ≤ x ∧ x < (q : Int) ∧ bt s x = 40
  shut : ∀ j : Nat, j < q → (j : Int) ∉ op → ∃ m : Nat, m < q ∧ rd out (j : Int) = (m : Int) ∧ (m : Int) ∉ op ∧ rd out (m : Int) = (j : Int) ∧ m ≠ j ∧ (bt s (j : Int) = 40 ↔ j < m)
end Go.Proofs.Ytjfkompfkgjdaaa.L
end
section
/- Through strands, and diagrams turned: plain. -/
namespace Go.Proofs.Ytjfkompfkgjdaaa.G
/-! ### through strands -/
noncomputable def thr (n : Nat) (d : Nat → Nat) : Nat := cntP (fun i => n ≤ d i) n
/-! ### turned -/
def dnf (n : Nat) (d : Nat → Nat) (z : Nat) : Nat := idf n (d (idf n z))
def lf (n z : Nat) : Nat := if z < n then n - 1 - z else 3 * n - 1 - z
def lff (n : Nat) (d : Nat → Nat) (z : Nat) : Nat := lf n (d (lf n z))
theorem lf_mat {n z : Nat} (h : z < 2 * n) : lf n z < 2 * n ∧ lf n (lf n z) = z := by
  unfold lf
  by_cases c : z < n
  · rw [if_pos c, if_pos (by omega)]; omega
  · rw [if_neg c, if_neg (by omega)]; omega
end Go.Proofs.Ytjfkompfkgjdaaa.G
end
section
/- Through strands, diagrams turned, and closed curves, by the program and by the specification. -/
namespace Go.Proofs.Ytjfkompfkgjdaaa.L
open Go.RowKit Go.Proofs.Ytjfkompfkgjdaaa.PC Go.Proofs.YtjfkompfkgjdaaaW.PrintWords Go.Proofs.YtjfkompfkgjdaaaW.PrintLast Go.Proofs.Ytjfkompfkgjdaaa.G
/-! ### through strands -/
theorem through_l0 {n : Nat} (hn : n ≤ 500) {l : List Int} (h : LM n l) (d : Nat) : ∀ i, i + d = n →
    Ev (fun k => plait_Through.l0 k l (cntP (fun j => n ≤ fn l j) i : Int) (n : Int) (i : Int)) ((thr n (fn l) : Int), 0) ∧
    Ev (fun k => pomaderef07_Through.l0 k l (n : Int) (cntP (fun j => n ≤ fn l j) i : Int) (i : Int)) ((thr n (fn l) : Int), 0) := by
  have hl := h.len
  induction d with
  | zero =>
    intro i hi
    obtain rfl : i = n := by omega
    constructor
    · refine Ev.step (f := fun _ => some ((thr i (fn l) : Int), 0)) (fun k => ?_) (Ev.now _)
      simp only [plait_Through.l0]; rw [if_neg (by omega)]; rfl
    · refine Ev.step (f := fun _ => some ((thr i (fn l) : Int), 0)) (fun k => ?_) (Ev.now _)
      simp only [pomaderef07_Through.l0]; rw [if_neg (by omega)]; rfl
  | succ d ih =>
    intro i hi
    have hle := cntP_le (fun j => n ≤ fn l j) i
    have e := h.nn i (by omega)
    have es : plait_diagram_size.f l = some (n : Int) := by
      unfold plait_diagram_size.f
      rw [pw64 (by omega) (by omega)]; congr 1; omega
    obtain ⟨g1, g2⟩ := ih (i + 1) (by omega)
    simp only [cntP] at g1 g2
    by_cases c : n ≤ fn l i
    · rw [if_pos c] at g1 g2
      constructor
      · refine Ev.step (fun k => ?_) g1
        simp only [plait_Through.l0]
        rw [if_pos (by omega), if_pos (by omega), if_pos (by omega), es, Option.bind_some, e, if_pos (show (fn l i : Int) ≥ (n : Int) by omega), pw64 (by omega) (by omega), pw64 (by omega) (by omega)]
        rfl
      · refine Ev.step (fun k => ?_) g2
        simp only [pomaderef07_Through.l0]
        rw [if_pos (by omega), if_pos (by omega), if_pos (by omega), e, if_pos (show (fn l i : Int) ≥ (n : Int) by omega), pw64 (by omega) (by omega), pw64 (by omega) (by omega)]
        rfl
    · rw [if_neg c] at g1 g2
      constructor
      · refine Ev.step (fun k => ?_) g1
        simp only [plait_Through.l0]
        rw [if_pos (by omega), if_pos (by omega), if_pos (by omega), es, Option.bind_some, e, if_neg (show ¬ (fn l i : Int) ≥ (n : Int) by omega), pw64 (by omega) (by omega)]
        rfl
      · refine Ev.step (fun k => ?_) g2
        simp only [pomaderef07_Through.l0]
        rw [if_pos (by omega), if_pos (by omega), if_pos (by omega), e, if_neg (show ¬ (fn l i : Int) ≥ (n : Int) by omega), pw64 (by omega) (by omega)]
        rfl
theorem half_len {n : Nat} (hn : n ≤ 500) {l : List Int} (hl : l.length = 2 * n) : wrap64 ((l.length : Int) / 2) = (n : Int) := by rw [pw64 (by omega) (by omega)]; omega
theorem through_val {n : Nat} {l : List Int} (h : Dia n l) : Ev (fun k => plait_Through.f k l) ((thr n (fn l) : Int), 0) ∧ Ev (fun k => pomaderef07_Through.f k l) ((thr n (fn l) : Int), 0) := by
  have hn := h.lim
  obtain ⟨y1, y2, _⟩ := dia_yes h
  obtain ⟨g1, g2⟩ := through_l0 (by omega) h.lm n 0 (by omega)
  have hw := half_len (by omega) h.lm.len
  constructor
  · refine Ev.congr (fun k => rfl) (Ev.bind y1 (Ev.congr (fun k => ?_) g1))
    rw [if_pos rfl]
    unfold plait_diagram_size.f
    rw [hw]
    rfl
  · refine Ev.congr (fun k => rfl) (Ev.bind y2 (Ev.congr (fun k => ?_) g2))
    rw [if_pos rfl, hw]
    rfl
/-! ### turned -/
theorem tmod_idf {n q : Nat} (h0 : 0 < n) (hn : n ≤ 500) (hq : q < 2 * n) : Int.tmod (wrap64 ((q : Int) + (n : Int))) (wrap64 (2 * (n : Int))) = (G.idf n q : Int) := by
  rw [pw64 (by omega) (by omega), pw64 (by omega) (by omega), Int.tmod_eq_emod_of_nonneg (by omega)]
  unfold G.idf
  by_cases c : q < n
  · rw [if_pos c, Int.emod_eq_of_lt (by omega) (by omega)]; omega
  · rw [if_neg c, show (q : Int) + (n : Int) = ((q - n : Nat) : Int) + (2 * (n : Int)) * 1 by omega, Int.add_mul_emod_self_left, Int.emod_eq_of_lt (by omega) (by omega)]
theorem lf_arith {n z : Nat} (h0 : 0 < n) (hn : n ≤ 500) (hz : z < 2 * n) : wrap64 ((wrap64 ((wrap64 ((wrap64 ((wrap64 (Int.tdiv (z : Int) (n : Int))) * (n : Int))) + (n : Int))) - 1)) - (Int.tmod (z : Int) (n : Int))) = (G.lf n z : Int) := by
  have ed : Int.tdiv (z : Int) (n : Int) = ((z / n : Nat) : Int) := by rw [Int.tdiv_eq_ediv_of_nonneg (by omega)]; rfl
  have em : Int.tmod (z : Int) (n : Int) = ((z % n : Nat) : Int) := by rw [Int.tmod_eq_emod_of_nonneg (by omega)]; rfl
  rw [ed, em]
  unfold G.lf
  by_cases c : z < n
  · rw [if_pos c, Nat.div_eq_of_lt c, Nat.mod_eq_of_lt c, pw64 (x := ((0 : Nat) : Int)) (by omega) (by omega), show ((0 : Nat) : Int) * (n : Int) = 0 by simp, pw64 (x := (0 : Int)) (by omega) (by omega), pw64 (x := 0 + (n : Int)) (by omega) (by omega), pw64 (x := 0 + (n : Int) - 1) (by omega) (by omega), pw64 (by omega) (by omega)]
    omega
  · have e1 : z / n = 1 := Nat.div_eq_of_lt_le (by omega) (by omega)
    have e2 : z % n = z - n := by rw [Nat.mod_eq_sub_mod (by omega), Nat.mod_eq_of_lt (by omega)]
    rw [if_neg c, e1, e2, pw64 (x := ((1 : Nat) : Int)) (by omega) (by omega), show ((1 : Nat) : Int) * (n : Int) = (n : Int) by simp, pw64 (x := (n : Int)) (by omega) (by omega), pw64 (x := (n : Int) + (n : Int)) (by omega) (by omega), pw64 (x := (n : Int) + (n : Int) - 1) (by omega) (by omega), pw64 (by omega) (by omega)]
    omega
theorem rens_map {n : Nat} {g : Nat → Nat} (hg : ∀ z, z < 2 * n → g z < 2 * n ∧ g (g z) = z) {l : List Int} (h : LM n l) (d : Nat) : ∀ (i : Nat) (out : List Int), i + d = 2 * n → out.length = 2 * n → (∀ j, j < i → rd out (g j : Int) = (g (fn l j) : Int)) →
    plait_rens g l d i out = (List.range (2 * n)).map (fun z => (g (fn l (g z)) : Int)) := by
  induction d with
  | zero =>
    intro i out hi hl hr
    simp only [plait_rens]
    refine list_eq (by simp [hl]) (fun z hz => ?_)
    rw [hl] at hz
    have a := hg z hz
    have := hr (g z) (by omega)
    rw [a.2] at this
    rw [this, rd_range _ _ _ hz]
  | succ d ih =>
    intro i out hi hl hr
    simp only [plait_rens]
    have a := hg i (by omega)
    refine ih (i + 1) _ (by omega) (by simpa using hl) (fun j hj => ?_)
    rw [rd_set _ _ _ _ (by omega)]
    by_cases c : j = i
    · subst c; rw [if_pos rfl]; rfl
    · have b := hg j (by omega)
      rw [if_neg (fun e => c (by rw [← b.2, e, a.2])), hr j (by omega)]
def dnL (n : Nat) (l : List Int) : List Int := (List.range (2 * n)).map (fun z => (dnf n (fn l) z : Int))
def lfL (n : Nat) (l : List Int) : List Int := (List.range (2 * n)).map (fun z => (lff n (fn l) z : Int))
theorem dnL_rens {n : Nat} {l : List Int} (h : LM n l) : plait_rens (G.idf n) l (2 * n) 0 (List.replicate (2 * n) 0) = dnL n l :=
  rens_map (fun z hz => ⟨(G.idf_mat z hz).1, (G.idf_mat z hz).2.2⟩) h (2 * n) 0 _ (by omega) (by simp) (fun j hj => by omega)
theorem lfL_rens {n : Nat} {l : List Int} (h : LM n l) : plait_rens (G.lf n) l (2 * n) 0 (List.replicate (2 * n) 0) = lfL n l :=
  rens_map (fun z hz => lf_mat hz) h (2 * n) 0 _ (by omega) (by simp) (fun j hj => by omega)
theorem lm_ok {n : Nat} {l : List Int} (h0 : 0 < n) (hn : n ≤ 500) (h : LM n l) : plait_okL l := by
  have hl := h.len
  refine ⟨by omega, by omega, by omega, fun x hx => ?_⟩
  obtain ⟨i, hi, rfl⟩ := List.getElem_of_mem hx
  have e := h.nn i (by omega)
  have := (h.mat i (by omega)).1
  have e2 : rd l (i : Int) = l[i] := by
    unfold rd
    rw [Int.toNat_natCast, List.getD_eq_getElem?_getD, List.getElem?_eq_getElem hi]; rfl
  omega
theorem turned_val {n : Nat} {l : List Int} (h : Dia n l) : Ev (fun k => plait_Turned.f k l) (dnL n l, lfL n l, 0) := by
  have hn := h.lim
  have hl := h.lm.len
  refine Ev.congr (fun k => rfl) (Ev.bind (dia_yes h).1 (Ev.congr (f := fun _ => some (dnL n l, lfL n l, 0)) (fun k => ?_) (Ev.now _)))
  rw [if_pos rfl, if_pos (lm_ok h.pos (by omega) h.lm), hl, show 2 * n / 2 = n by omega, ← dnL_rens h.lm, ← lfL_rens h.lm]
  rfl
theorem refturned_l0 {n : Nat} (h0 : 0 < n) (hn : n ≤ 500) {l : List Int} (h : LM n l) (d : Nat) : ∀ (i : Nat) (o1 o2 : List Int), i + d = 2 * n → o1.length = 2 * n → o2.length = 2 * n →
    Ev (fun k => pomaderef07_Turned.l0 k l (n : Int) o1 o2 (i : Int)) (plait_rens (G.idf n) l d i o1, plait_rens (G.lf n) l d i o2, 0) := by
  have hl := h.len
  have e2 : wrap64 (2 * (n : Int)) = ((2 * n : Nat) : Int) := by rw [pw64 (by omega) (by omega)]; omega
  induction d with
  | zero =>
    intro i o1 o2 hi h1 h2
    refine Ev.step (f := fun _ => some (o1, o2, 0)) (fun k => ?_) (Ev.now _)
    simp only [pomaderef07_Turned.l0]
    rw [if_neg (by rw [e2]; omega)]
  | succ d ih =>
    intro i o1 o2 hi h1 h2
    have hi2 : i < 2 * n := by omega
    have e := h.nn i hi2
    have m := (h.mat i hi2).1
    have a1 := (G.idf_mat i hi2).1
    have a2 := (lf_mat hi2).1
    refine Ev.step (fun k => ?_) (ih (i + 1) (o1.set (G.idf n i) (G.idf n (fn l i) : Int)) (o2.set (G.lf n i) (G.lf n (fn l i) : Int)) (by omega) (by simpa using h1) (by simpa using h2))
    simp only [pomaderef07_Turned.l0]
    rw [e, tmod_idf h0 hn hi2, lf_arith h0 hn hi2, tmod_idf h0 hn m, lf_arith h0 hn m, if_pos (by rw [e2]; omega), if_neg (by rw [e2]; omega), if_pos (by omega), if_pos (by omega), if_pos (by omega), if_pos (by omega), if_neg (by omega), if_pos (by omega), if_pos (by omega), pw64 (by omega) (by omega), Int.toNat_natCast, Int.toNat_natCast]
    rfl
theorem refturned_val {n : Nat} {l : List Int} (h : Dia n l) : Ev (fun k => pomaderef07_Turned.f k l) (dnL n l, lfL n l, 0) := by
  have hn := h.lim
  have hl := h.lm.len
  have hw := half_len (by omega) hl
  have e2 : wrap64 (2 * (n : Int)) = ((2 * n : Nat) : Int) := by rw [pw64 (by omega) (by omega)]; omega
  have g := refturned_l0 h.pos (by omega) h.lm (2 * n) 0 (List.replicate (2 * n) 0) (List.replicate (2 * n) 0) (by omega) (by simp) (by simp)
  rw [dnL_rens h.lm, lfL_rens h.lm] at g
  refine Ev.congr (fun k => rfl) (Ev.bind (dia_yes h).2.1 (Ev.congr (fun k => ?_) g))
  rw [if_pos rfl, hw, e2, if_pos (by omega), Int.toNat_natCast, if_pos (by omega)]
  rfl
/-! ### closed curves, by the specification -/
theorem rclosed_rnd {n : Nat} (h0 : 0 < n) (hn : n ≤ 500) {a : List Int} (ha : LM n a) (T0 : List Bool) (many : Int) (i : Nat) (hi : i < 2 * n) (c : Nat) : ∀ (at_ : Nat) (T : List Bool), T.count false ≤ c → T.length = 2 * n → Rd (UN (2 * n)) (fn a) (G.idf n) (bM T0) (bM T) i at_ →
    ∃ T', T'.length = 2 * n ∧ (∀ m, UN (2 * n) m → (bM T' m ↔ bM T0 m ∨ Conn (fn a) (G.idf n) i m)) ∧ ∀ r, Ev (fun k => pomaderef07_Closed.l0 k a (n : Int) T' many ((i + 1 : Nat) : Int)) r → Ev (fun k => pomaderef07_Closed.l1 k a (n : Int) T many (i : Int) (at_ : Int)) r := by
  have pa := pairs_of ha.pl.pair
  have pb := pairs_of (N := 2 * n) (A := G.idf n) G.idf_mat
  have la := ha.len
  have e2 : wrap64 (2 * (n : Int)) ≠ 0 := by rw [pw64 (by omega) (by omega)]; omega
  have stop : ∀ (at_ : Nat) (T : List Bool), T.length = 2 * n → at_ < 2 * n → bM T at_ → ∀ r, Ev (fun k => pomaderef07_Closed.l0 k a (n : Int) T many ((i + 1 : Nat) : Int)) r → Ev (fun k => pomaderef07_Closed.l1 k a (n : Int) T many (i : Int) (at_ : Int)) r := by
    intro at_ T hT hat ht r hr
    refine Ev.step (fun k => ?_) hr
    simp only [pomaderef07_Closed.l1]
    rw [if_pos (by omega), if_pos (by omega), if_pos (show rdOf false T (at_ : Int) = true from ht), pw64 (by omega) (by omega)]
    rfl
  induction c with
  | zero =>
    intro at_ T hc hT hR
    have hat : at_ < 2 * n := hR.uc
    have ht : bM T at_ := by
      unfold bM
      cases e : T.getD at_ false with
      | true => rfl
      | false => exact absurd (Nat.le_zero.1 hc) (count_pos (by omega) e)
    exact ⟨T, hT, hR.fin pa pb ht, stop at_ T hT hat ht⟩
  | succ c ih =>
    intro at_ T hc hT hR
    have hat : at_ < 2 * n := hR.uc
    by_cases ht : bM T at_
    · exact ⟨T, hT, hR.fin pa pb ht, stop at_ T hT hat ht⟩
    · have hA : fn a at_ < 2 * n := (ha.mat at_ hat).1
      have hB : G.idf n (fn a at_) < 2 * n := (G.idf_mat _ hA).1
      have e := count_set T at_ (by omega) (by unfold bM at ht; simpa using ht)
      have e3 := count_set_le (T.set at_ true) (fn a at_)
      have bs : ∀ (T : List Bool) (x u : Nat), x < T.length → (bM (T.set x true) u ↔ bM T u ∨ u = x) := fun T x u h => getD_set T x u h
      have all : ∀ m, UN (2 * n) m → (bM ((T.set at_ true).set (fn a at_) true) m ↔ bM T m ∨ m = at_ ∨ m = fn a at_) := by
        intro m _
        rw [bs _ _ _ (by simp; omega), bs _ _ _ (by omega), or_assoc]
      obtain ⟨T', g1, g2, g3⟩ := ih (G.idf n (fn a at_)) _ (by omega) (by simpa using hT) (hR.step pa pb ht all)
      refine ⟨T', g1, g2, fun r hr => Ev.step (fun k => ?_) (g3 r hr)⟩
      simp only [pomaderef07_Closed.l1]
      rw [if_pos (by omega), if_pos (by omega), if_neg (show ¬ rdOf false T (at_ : Int) = true from ht), if_pos (by omega), ha.nn at_ hat, if_pos (by omega), if_pos (by omega), if_neg e2, tmod_idf h0 hn hA]
      rfl
theorem rclosed_cnt {n : Nat} (h0 : 0 < n) (hn : n ≤ 500) {a : List Int} (ha : LM n a) (d : Nat) : ∀ (i : Nat) (T : List Bool), i + d = 2 * n → T.length = 2 * n → MetI (UN (2 * n)) (fn a) (G.idf n) i (bM T) →
    Ev (fun k => pomaderef07_Closed.l0 k a (n : Int) T (cntP (Fst (UN (2 * n)) (fn a) (G.idf n)) i : Int) (i : Int)) ((cntP (Fst (UN (2 * n)) (fn a) (G.idf n)) (2 * n) : Int), 0) := by
  have pa := pairs_of ha.pl.pair
  have pb := pairs_of (N := 2 * n) (A := G.idf n) G.idf_mat
  have e2 : wrap64 (2 * (n : Int)) = ((2 * n : Nat) : Int) := by rw [pw64 (by omega) (by omega)]; omega
  induction d with
  | zero =>
    intro i T hi hT hM
    obtain rfl : i = 2 * n := by omega
    refine Ev.step (f := fun _ => some ((cntP (Fst (UN (2 * n)) (fn a) (G.idf n)) (2 * n) : Int), 0)) (fun k => ?_) (Ev.now _)
    simp only [pomaderef07_Closed.l0]
    rw [if_neg (by rw [e2]; omega)]
  | succ d ih =>
    intro i T hi hT hM
    have hle := cntP_le (Fst (UN (2 * n)) (fn a) (G.idf n)) i
    by_cases c : bM T i
    · obtain ⟨m1, m2⟩ := hM.skip (fun _ => c)
      have := ih (i + 1) T (by omega) hT m1
      simp only [cntP] at this
      rw [if_neg m2] at this
      refine Ev.step (fun k => ?_) this
      simp only [pomaderef07_Closed.l0]
      rw [if_pos (by rw [e2]; omega), if_pos (by omega), if_pos (by omega), if_pos (show rdOf false T (i : Int) = true from c), pw64 (x := (i : Int) + 1) (by omega) (by omega)]
      rfl
    · have ui : UN (2 * n) i := by show i < 2 * n; omega
      obtain ⟨ca, cb⟩ := hM.closed pa pb
      obtain ⟨T', g1, g2, g3⟩ := rclosed_rnd h0 hn ha T (cntP (Fst (UN (2 * n)) (fn a) (G.idf n)) i + 1 : Nat) i (by omega) _ i T (Nat.le_refl _) hT (Rd.start pa pb ca cb ui c)
      obtain ⟨n1, n2⟩ := hM.round ui c g2
      have := ih (i + 1) T' (by omega) g1 n1
      simp only [cntP] at this
      rw [if_pos n2] at this
      refine Ev.step (fun k => ?_) (g3 _ this)
      simp only [pomaderef07_Closed.l0]
      rw [if_pos (by rw [e2]; omega), if_pos (by omega), if_pos (by omega), if_neg (show ¬ rdOf false T (i : Int) = true from c), pw64 (x := ((cntP (Fst (UN (2 * n)) (fn a) (G.idf n)) i : Nat) : Int) + 1) (by omega) (by omega)]
      rfl
theorem refclosed_val {n : Nat} {a : List Int} (ha : Dia n a) : Ev (fun k => pomaderef07_Closed.f k a) ((cls n (fn a) : Int), 0) := by
  have la := ha.lm.len
  have hn := ha.lim
  have hw := half_len (by omega) la
  have e2 : wrap64 (2 * (n : Int)) = ((2 * n : Nat) : Int) := by rw [pw64 (by omega) (by omega)]; omega
  refine Ev.congr (fun k => rfl) (Ev.bind (dia_yes ha).2.1 ?_)
  rw [cls_fst ha.lm.mat]
  refine Ev.congr (fun k => ?_) (rclosed_cnt ha.pos (by omega) ha.lm (2 * n) 0 (List.replicate (2 * n) false) (by omega) (by simp) (fun m _ => ⟨fun h => absurd h (no_mark _ m), fun ⟨j, hj, _⟩ => by omega⟩))
  rw [if_pos rfl, hw, e2, if_pos (by omega), Int.toNat_natCast, if_pos (by omega)]
  rfl
end Go.Proofs.Ytjfkompfkgjdaaa.L
end
section
/- Plait: PlaitTurns: Through, Turned and Closed return what the specification returns. -/
namespace Go.Proofs.Ytjfkompfkgjdaaa.L
open Go.RowKit Go.Proofs.Ytjfkompfkgjdaaa.PC Go.Proofs.YtjfkompfkgjdaaaW.PrintWords Go.Proofs.YtjfkompfkgjdaaaW.PrintLast Go.Proofs.Ytjfkompfkgjdaaa.G
theorem through_both (l : List Int) : ∃ r, Ev (fun k => plait_Through.f k l) r ∧ Ev (fun k => pomaderef07_Through.f k l) r := by
  obtain ⟨e, h1, h2, _⟩ := dia_both l
  by_cases z : e = 0
  · subst z
    obtain ⟨n, h⟩ := dia_of h2
    exact ⟨_, (through_val h).1, (through_val h).2⟩
  · exact ⟨(0, e), Ev.congr (fun k => rfl) (Ev.bind h1 (Ev.congr (fun k => by rw [if_neg z]) (Ev.now _))), Ev.congr (fun k => rfl) (Ev.bind h2 (Ev.congr (fun k => by rw [if_neg z]) (Ev.now _)))⟩
theorem closed_both (l : List Int) : ∃ r, Ev (fun k => plait_Closed.f k l) r ∧ Ev (fun k => pomaderef07_Closed.f k l) r := by
  obtain ⟨e, h1, h2, _⟩ := dia_both l
  by_cases z : e = 0
  · subst z
    obtain ⟨n, h⟩ := dia_of h2
    exact ⟨_, closed_val h, refclosed_val h⟩
  · exact ⟨(0, e), Ev.congr (fun k => rfl) (Ev.bind h1 (Ev.congr (fun k => by rw [if_neg z]) (Ev.now _))), Ev.congr (fun k => rfl) (Ev.bind h2 (Ev.congr (fun k => by rw [if_neg z]) (Ev.now _)))⟩
theorem turned_both (l : List Int) : ∃ r : List Int × List Int × Int, r.1.length ≤ 20 ∧ r.2.1.length ≤ 20 ∧ Ev (fun k => plait_Turned.f k l) r ∧ Ev (fun k => pomaderef07_Turned.f k l) r := by
  obtain ⟨e, h1, h2, _⟩ := dia_both l
  by_cases z : e = 0
  · subst z
    obtain ⟨n, h⟩ := dia_of h2
    have hn := h.lim
    exact ⟨(dnL n l, lfL n l, 0), by show (dnL n l).length ≤ 20; simp [dnL]; omega, by show (lfL n l).length ≤ 20; simp [lfL]; omega, turned_val h, refturned_val h⟩
  · exact ⟨([], [], e), by simp, by simp, Ev.congr (fun k => rfl) (Ev.bind h1 (Ev.congr (fun k => by rw [if_neg z]) (Ev.now _))), Ev.congr (fun k => rfl) (Ev.bind h2 (Ev.congr (fun k => by rw [if_neg z]) (Ev.now _)))⟩
theorem PlaitTurns_pure : pomadelaw07_PlaitTurns.Pure := by
  intro l _ _ _
  refine Ev.rounds (g := fun k => pomadelaw07_PlaitTurns.f k l) ?_
  obtain ⟨b, hb⟩ : ∃ b, pomadelaw07_few.f l ([] : List Int) = some b := by
    unfold pomadelaw07_few.f
    by_cases c1 : (l.length : Int) ≤ 50
    · rw [if_pos c1]; exact ⟨_, rfl⟩
    · rw [if_neg c1]; exact ⟨_, rfl⟩
  cases b with
  | false =>
    refine Ev.congr (f := fun _ => some true) (fun k => ?_) (Ev.now _)
    unfold pomadelaw07_PlaitTurns.f
    rw [hb, Option.bind_some, if_neg (by decide)]; rfl
  | true =>
    obtain ⟨r, r1, r2⟩ := through_both l
    obtain ⟨s, s0, s3, s1, s2⟩ := turned_both l
    obtain ⟨t, t1, t2⟩ := closed_both l
    have last : Ev (fun k => pomadelaw07_PlaitTurns.j1 k l false) true := by
      refine Ev.step (f := fun k => (plait_Closed.f k l).bind fun bt471 => ((pomaderef07_Closed.f k l).bind fun bt473 => (if bt471.1 = bt473.1 then (if bt471.2 = bt473.2 then ((pomadelaw07_alive.f).bind fun t475 => (some t475)) else (some false)) else (some false)))) (fun k => by simp only [pomadelaw07_PlaitTurns.j1]; rw [if_neg (by decide)]) ?_
      refine Ev.bind t1 ?_
      refine Ev.bind t2 ?_
      exact Ev.congr (f := fun _ => some true) (fun k => by rw [if_pos rfl, if_pos rfl]; rfl) (Ev.now _)
    have mid : Ev (fun k => pomadelaw07_PlaitTurns.j0 k l false) true := by
      refine Ev.step (f := fun k => (plait_Turned.f k l).bind fun bt455 => ((pomaderef07_Turned.f k l).bind fun bt462 => ((pomadelaw07_same.f k bt455.1 bt462.1).bind fun t469 => (if t469 = true then ((pomadelaw07_same.f k bt455.2.1 bt462.2.1).bind fun t470 => (if t470 = true then (pomadelaw07_PlaitTurns.j1 k l (bt455.2.2 != bt462.2.2)) else (pomadelaw07_PlaitTurns.j1 k l true))) else (pomadelaw07_PlaitTurns.j1 k l true))))) (fun k => by simp only [pomadelaw07_PlaitTurns.j0]; rw [if_neg (by decide)]) ?_
      refine Ev.bind s1 ?_
      refine Ev.bind s2 ?_
      refine Ev.bind (same_ev (by omega)) ?_
      refine Ev.congr (fun k => by rw [if_pos rfl]) ?_
      refine Ev.bind (same_ev (by omega)) ?_
      exact Ev.congr (fun k => by rw [if_pos rfl, show (s.2.2 != s.2.2) = false from bne_self_eq_false ..]) last
    refine Ev.congr (f := fun k => (plait_Through.f k l).bind fun bt451 => ((pomaderef07_Through.f k l).bind fun bt453 => (if bt451.1 = bt453.1 then (pomadelaw07_PlaitTurns.j0 k l (bt451.2 != bt453.2)) else (pomadelaw07_PlaitTurns.j0 k l true)))) (fun k => ?_) ?_
    · unfold pomadelaw07_PlaitTurns.f
      rw [hb, Option.bind_some, if_pos rfl]
    · refine Ev.bind r1 ?_
      refine Ev.bind r2 ?_
      exact Ev.congr (fun k => by rw [if_pos rfl, show (r.2 != r.2) = false from bne_self_eq_false ..]) mid
end Go.Proofs.Ytjfkompfkgjdaaa.L
namespace Go.Proofs.Ytjfkompfkgjdaaa.Pure
theorem PlaitTurns : Go.Proofs.Ytjfkompfkgjdaaa.PC.pomadelaw07_PlaitTurns.Pure := Go.Proofs.Ytjfkompfkgjdaaa.L.PlaitTurns_pure
end Go.Proofs.Ytjfkompfkgjdaaa.Pure
end
section
namespace Go.Proofs.Ytjfkompfkgjdaaa.plaitTurns
open Go.ChangeShapes Go.WideShapes Go.ChangeAt Go.RowKit
open Go.ChangeMaps (open_string shut_string)
set_option linter.unusedVariables false
theorem own : ownKnob Try.prog.godebug = none := by kernel_rfl
theorem laidOut : laidOutB Try.prog = true := by kernel_rfl
def IsRow (k : IntKind) (w : World) (a : Option Addr) (len cap : Nat) (zs : List Int) : Prop :=
  (a = none ∧ len = 0 ∧ cap = 0 ∧ zs = []) ∨
  ∃ x, a = some x ∧ len ≤ cap ∧ cap ≤ maxLen ∧ zs.length = cap ∧ (∀ i, i < zs.length → w.cell? (x.add i) = some (.int k (zs.getD i 0))) ∧ ∀ n ∈ zs, (Lit.int k n).wf = true
set_option maxRecDepth 100000 in
theorem lifted (os : Os) (started : os.Started) (H : Type) (enc : TypeId × Value → H) :
    ReturnsInHanded {} Try.checked os 12 .any (Rows.plaitTurnsSpec.pre6 enc Try.prog Try.f12 Rows.plaitTurnsRow.domain false) (Rows.plaitTurnsSpec.post enc Try.prog Try.f12 false true false false) := by
  refine returnsInHanded_of_change_sized (C := Try.checked) own started (by kernel_rfl) Try.func12
    (ChangeSpec.witness6 (enc := enc) (C := Try.checked) false ⟨#[], #[.slice none 0 0], []⟩ 8 (by kernel_rfl) (by kernel_rfl) (by kernel_rfl) (by kernel_rfl)) ?_
  intro W base args ds gs before hval0 hW hcnd hsz0 _
  have hsz : (DataW.weightsEach Try.prog (Try.f12.params.toList ++ Rows.plaitTurnsSpec.plain.varTypes Try.prog) (ds ++ gs)).all (· ≤ reachBytes) = true := hsz0
  have hval : ∀ (j : Nat) t v, Try.f12.params[j]? = some t → args[j]? = some v → Value.okWide Try.prog W .any base t v := hval0
  have hW' := hW
  obtain ⟨p, q, hA0, hV, rfl, hfz, hnd⟩ := hW
  have hA : DataW.TrodAll enc Try.prog W 0 (fun _ => true) true Try.f12.params.toList args.toList ds p := hA0
  rw [Try.params12] at hA hval hsz
  obtain ⟨v0, vs0, d0, ds0, p0, q0, hargs, rfl, rfl, h0, r0⟩ := trodAll_cons hA
  obtain ⟨rfl, rfl, rfl⟩ := trodAll_nil r0
  obtain rfl : args = #[v0] := by cases args; simp_all
  obtain ⟨rfl, rfl⟩ := trodVars_none hV
  obtain ⟨a0, len0, cap0, rfl⟩ := okWide_slice Try.underlying22 (hval 0 22 v0 rfl rfl)
  have k0 := h0
  have lt0 : ∀ x ∈ p0, x.block < W.heap.size := by obtain ⟨m, hm⟩ := k0; exact DataW.trod_lt m _ _ _ hm
  obtain ⟨z0, w0⟩ : ∃ zs, IsRow .i64 W a0 len0 cap0 zs := by
    obtain ⟨fuel, hf⟩ := h0
    rcases open_ints Try.underlying22 Try.underlying3 (by kernel_rfl) hf with ⟨hcs, _⟩ | ⟨x, l, c, zs, hcs, _, hl, hm, hz, _, hcell, hwz⟩
    · simp [Value.cells] at hcs
      obtain ⟨rfl, rfl, rfl⟩ := hcs
      exact ⟨[], .inl ⟨rfl, rfl, rfl, rfl⟩⟩
    · simp [Value.cells] at hcs
      obtain ⟨rfl, rfl, rfl⟩ := hcs
      exact ⟨zs, .inr ⟨_, rfl, hl, hm, by simpa using hz, hcell, hwz⟩⟩
  have y0 : len0 * 8 ≤ 140737488351232 := Go.Proofs.YtjfkompfkgjdaaaW.PrintWords.sized_ints hsz (j := 0) (t := 22) rfl rfl Try.underlying22 Try.underlying3 (by kernel_rfl) (by kernel_rfl) h0
  clear hA0 hval0 hsz0 hsz
  refine (PC.pomadelaw07_PlaitTurns.walk Pure.PlaitTurns a0 len0 cap0 z0 W w0 y0).mono fun e W' ⟨he, bel⟩ => ?_
  subst he
  exact ⟨_, rfl, _, _, _, [], _, [], hW', trodAll_mk1 (shut_bool Try.underlying4 _), (trodAll_cons_mk (Below.trod laidOut (by kernel_rfl) (of_decide_eq_true (by kernel_rfl)) k0 bel lt0) trodAll_mk0), rfl, bel.frame _, fun h => by cases h⟩
theorem over : Rows.plaitTurnsRow.holds Try.pinned (OpenSpec.ofChange Rows.plaitTurnsSpec) :=
  OpenClaim.holds_of_wide 12 Try.f12 rfl rfl rfl rfl rfl rfl rfl ⟨rfl, rfl, rfl, rfl, rfl⟩ rfl rfl rfl rfl rfl (by kernel_rfl) Try.func12 (by kernel_rfl)
    (of_decide_eq_true (by kernel_rfl)) (by unfold Func.isWrapper; first | (rw [if_pos (by decide +kernel)]; kernel_rfl) | (rw [if_neg (by decide +kernel)]; exact ⟨rfl, rfl⟩))
    (fun os started H enc _ => lifted os started H enc)
theorem proved : Rows.PlaitTurnsSaid := over
#print axioms proved
end Go.Proofs.Ytjfkompfkgjdaaa.plaitTurns
namespace Go.Proofs.Ytjfkompfkgjdaaa
/-- The row, under a short name, for the claim. -/
theorem plaitTurns_holds : Rows.PlaitTurnsSaid := plaitTurns.proved
end Go.Proofs.Ytjfkompfkgjdaaa
end
