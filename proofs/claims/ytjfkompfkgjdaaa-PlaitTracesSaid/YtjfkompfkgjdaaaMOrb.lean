/- Orbits of two pairings, and the points on ways: plain. -/
import Derived.Test.YtjfkompfkgjdaaaMGlue
namespace Go.Proofs.Ytjfkompfkgjdaaa.G
/-! ### round and round -/
/-- A pairs the indices of U -/
structure Pairs (U : Nat → Prop) (A : Nat → Nat) : Prop where
  mem : ∀ m, U m → U (A m)
  ne : ∀ m, U m → A m ≠ m
  inv : ∀ m, U m → A (A m) = m
structure Rd (U : Nat → Prop) (A B : Nat → Nat) (T M : Nat → Prop) (i c : Nat) : Prop where
  ui : U i
  uc : U c
  sub : ∀ m, U m → T m → M m
  cA : ∀ m, U m → M m → M (A m)
  cB : ∀ m, U m → M m → m ≠ i → m ≠ B c → M (B m) ∧ B m ≠ i ∧ B m ≠ B c
  st : (c = i ∧ ¬ M i ∧ ¬ M (B i)) ∨ (M i ∧ M (B c) ∧ B c ≠ i)
  low : ∀ m, U m → M m → T m ∨ Conn A B i m
  cc : Conn A B i c
theorem Rd.start {U : Nat → Prop} {A B : Nat → Nat} {T : Nat → Prop} (hA : Pairs U A) (hB : Pairs U B) (tA : ∀ m, U m → T m → T (A m)) (tB : ∀ m, U m → T m → T (B m)) {i : Nat} (ui : U i) (hi : ¬ T i) : Rd U A B T T i i := by
  refine ⟨ui, ui, fun _ _ h => h, tA, fun m um h mi mb => ⟨tB m um h, fun e => ?_, fun e => ?_⟩, .inl ⟨rfl, hi, fun e => hi (by have := tB _ (hB.mem i ui) e; rwa [hB.inv i ui] at this)⟩, fun _ _ h => .inl h, .refl⟩
  · exact hi (e ▸ tB m um h)
  · have h1 := hB.inv m um
    rw [e, hB.inv i ui] at h1
    exact mi h1.symm
theorem Rd.step {U : Nat → Prop} {A B : Nat → Nat} {T M M' : Nat → Prop} {i c : Nat} (hA : Pairs U A) (hB : Pairs U B) (h : Rd U A B T M i c) (hc : ¬ M c) (hM : ∀ m, U m → (M' m ↔ M m ∨ m = c ∨ m = A c)) : Rd U A B T M' i (B (A c)) := by
  have uAc := hA.mem c h.uc
  have uBc := hB.mem c h.uc
  have a1 : ¬ M (A c) := fun e => hc (by have := h.cA _ uAc e; rwa [hA.inv c h.uc] at this)
  have a2 := hA.inv c h.uc
  have a3 := hA.ne c h.uc
  have b1 := hB.inv c h.uc
  have b2 := hB.inv (A c) uAc
  have nAi : A c ≠ i := by
    rcases h.st with ⟨e, _⟩ | ⟨e, _, _⟩
    · exact fun f => a3 (f.trans e.symm)
    · exact fun f => a1 (f ▸ e)
  refine ⟨h.ui, hB.mem _ uAc, fun m um t => (hM m um).2 (.inl (h.sub m um t)), fun m um hm => ?_, fun m um hm mi mb => ?_, .inr ⟨?_, ?_, ?_⟩, fun m um hm => ?_, ?_⟩
  · refine (hM _ (hA.mem m um)).2 ?_
    rcases (hM m um).1 hm with e | e | e
    · exact .inl (h.cA m um e)
    · exact .inr (.inr (by rw [e]))
    · exact .inr (.inl (by rw [e, a2]))
  · rw [b2] at mb
    have bm := hB.mem m um
    rcases (hM m um).1 hm with e | e | e
    · by_cases d : m = B c
      · subst d
        rw [b1]
        rcases h.st with ⟨f, g⟩ | ⟨f, g, k⟩
        · exact absurd (f ▸ e) g.2
        · exact ⟨(hM c h.uc).2 (.inr (.inl rfl)), fun q => hc (q ▸ f), fun q => a3 (by rw [b2] at q; exact q.symm)⟩
      · obtain ⟨f, g, k⟩ := h.cB m um e mi d
        exact ⟨(hM _ bm).2 (.inl f), g, fun q => a1 (by rw [b2] at q; exact q ▸ f)⟩
    · subst e
      rcases h.st with ⟨f, _⟩ | ⟨f, g, k⟩
      · exact absurd f mi
      · exact ⟨(hM _ bm).2 (.inl g), k, fun q => a1 (by rw [b2] at q; exact q ▸ g)⟩
    · exact absurd e mb
  · rcases h.st with ⟨e, _⟩ | ⟨e, _, _⟩
    · exact (hM i h.ui).2 (.inr (.inl e.symm))
    · exact (hM i h.ui).2 (.inl e)
  · rw [b2]; exact (hM _ uAc).2 (.inr (.inr rfl))
  · rw [b2]; exact nAi
  · rcases (hM m um).1 hm with e | e | e
    · exact h.low m um e
    · subst e; exact .inr h.cc
    · subst e; exact .inr (.s _ h.cc)
  · exact .t _ (.s _ h.cc)
theorem Rd.fin {U : Nat → Prop} {A B : Nat → Nat} {T M : Nat → Prop} {i c : Nat} (hA : Pairs U A) (hB : Pairs U B) (h : Rd U A B T M i c) (hc : M c) : ∀ m, U m → (M m ↔ T m ∨ Conn A B i m) := by
  have b1 := hB.inv c h.uc
  have st := h.st
  have ci : c = i := by
    refine Classical.byContradiction fun n => ?_
    rcases st with ⟨e, _⟩ | ⟨e, g, k⟩
    · exact n e
    · exact (h.cB c h.uc hc n (Ne.symm (hB.ne c h.uc))).2.2 rfl
  have hi : M i ∧ M (B c) := by
    rcases st with ⟨e, f⟩ | ⟨e, g, k⟩
    · exact absurd (ci ▸ hc) f.1
    · exact ⟨e, g⟩
  have cB : ∀ m, U m → M m → M (B m) := by
    intro m um hm
    by_cases e : m = i
    · rw [e, ← ci]; exact hi.2
    · by_cases f : m = B c
      · rw [f, b1]; exact hc
      · exact (h.cB m um hm e f).1
  have all : ∀ m, Conn A B i m → U m ∧ M m := by
    intro m hm
    induction hm with
    | refl => exact ⟨h.ui, hi.1⟩
    | s y _ ih => exact ⟨hA.mem y ih.1, h.cA y ih.1 ih.2⟩
    | t y _ ih => exact ⟨hB.mem y ih.1, cB y ih.1 ih.2⟩
  intro m um
  exact ⟨h.low m um, fun e => e.elim (h.sub m um) (fun e => (all m e).2)⟩
/-- the index is the first of its curve -/
def Fst (U : Nat → Prop) (A B : Nat → Nat) (i : Nat) : Prop := U i ∧ ∀ j, j < i → U j → ¬ Conn A B j i
/-- what is met before index i is looked at -/
def MetI (U : Nat → Prop) (A B : Nat → Nat) (i : Nat) (T : Nat → Prop) : Prop := ∀ m, U m → (T m ↔ ∃ j, j < i ∧ U j ∧ Conn A B j m)
theorem MetI.closed {U : Nat → Prop} {A B : Nat → Nat} {i : Nat} {T : Nat → Prop} (hA : Pairs U A) (hB : Pairs U B) (h : MetI U A B i T) : (∀ m, U m → T m → T (A m)) ∧ (∀ m, U m → T m → T (B m)) := by
  refine ⟨fun m um t => ?_, fun m um t => ?_⟩
  · obtain ⟨j, a, b, c⟩ := (h m um).1 t; exact (h _ (hA.mem m um)).2 ⟨j, a, b, .s _ c⟩
  · obtain ⟨j, a, b, c⟩ := (h m um).1 t; exact (h _ (hB.mem m um)).2 ⟨j, a, b, .t _ c⟩
theorem MetI.skip {U : Nat → Prop} {A B : Nat → Nat} {i : Nat} {T : Nat → Prop} (h : MetI U A B i T) (hi : U i → T i) : MetI U A B (i + 1) T ∧ ¬ Fst U A B i := by
  constructor
  · intro m um
    refine ⟨fun t => ?_, fun ⟨j, a, b, c⟩ => ?_⟩
    · obtain ⟨j, a, b, c⟩ := (h m um).1 t; exact ⟨j, by omega, b, c⟩
    · by_cases e : j = i
      · subst e
        obtain ⟨j', a', b', c'⟩ := (h j b).1 (hi b)
        exact (h m um).2 ⟨j', a', b', c'.trans c⟩
      · exact (h m um).2 ⟨j, by omega, b, c⟩
  · intro ⟨ui, hf⟩
    obtain ⟨j, a, b, c⟩ := (h i ui).1 (hi ui)
    exact hf j a b c
theorem MetI.round {U : Nat → Prop} {A B : Nat → Nat} {i : Nat} {T T' : Nat → Prop} (h : MetI U A B i T) (ui : U i) (hi : ¬ T i) (hT : ∀ m, U m → (T' m ↔ T m ∨ Conn A B i m)) : MetI U A B (i + 1) T' ∧ Fst U A B i := by
  constructor
  · intro m um
    rw [hT m um]
    refine ⟨fun t => ?_, fun ⟨j, a, b, c⟩ => ?_⟩
    · rcases t with t | t
      · obtain ⟨j, a, b, c⟩ := (h m um).1 t; exact ⟨j, by omega, b, c⟩
      · exact ⟨i, by omega, ui, t⟩
    · by_cases e : j = i
      · exact .inr (e ▸ c)
      · exact .inl ((h m um).2 ⟨j, by omega, b, c⟩)
  · exact ⟨ui, fun j a b c => hi ((h i ui).2 ⟨j, a, b, c⟩)⟩
theorem Conn.swap {σ τ : Nat → Nat} {x y : Nat} (h : Conn σ τ x y) : Conn τ σ x y := by
  induction h with
  | refl => exact .refl
  | s y _ ih => exact .t _ ih
  | t y _ ih => exact .s _ ih
theorem fst_swap {U : Nat → Prop} {A B : Nat → Nat} {i : Nat} : Fst U A B i ↔ Fst U B A i := ⟨fun h => ⟨h.1, fun j a b c => h.2 j a b c.swap⟩, fun h => ⟨h.1, fun j a b c => h.2 j a b c.swap⟩⟩
/-! ### along the ways -/
structure W0 (σ τ : Nat → Nat) (mid P M : Nat → Prop) : Prop where
  cl : ∀ u, ((mid u ∧ M u) ∨ (¬ mid u ∧ P u)) → ¬ mid (σ u) ∨ M (σ u)
  ct : ∀ u, mid u → M u → M (τ u)
  low : ∀ u, mid u → M u → ∃ o, ¬ mid o ∧ Conn σ τ o u
structure W1 (σ τ : Nat → Nat) (mid P : Nat → Prop) (p z : Nat) (M : Nat → Prop) : Prop where
  pin : ¬ mid p
  zin : z = p ∨ (mid z ∧ M z)
  cl : ∀ u, ((mid u ∧ M u) ∨ (¬ mid u ∧ (P u ∨ u = p))) → u ≠ z → ¬ mid (σ u) ∨ M (σ u)
  ct : ∀ u, mid u → M u → M (τ u)
  low : ∀ u, mid u → M u → ∃ o, ¬ mid o ∧ Conn σ τ o u
  cz : Conn σ τ p z
theorem W0.start {σ τ : Nat → Nat} {mid P M : Nat → Prop} (h : W0 σ τ mid P M) {p : Nat} (hp : ¬ mid p) : W1 σ τ mid P p p M := by
  refine ⟨hp, .inl rfl, fun u hu ne => ?_, h.ct, h.low, .refl⟩
  rcases hu with hu | ⟨a, b⟩
  · exact h.cl u (.inl hu)
  · exact h.cl u (.inr ⟨a, b.resolve_right ne⟩)
theorem W1.step {σ τ : Nat → Nat} {mid P M M' : Nat → Prop} {p z : Nat} (hs : Inv2 σ) (ht : Inv2 τ) (tm : ∀ u, mid u → mid (τ u)) (h : W1 σ τ mid P p z M) (hz : mid (σ z)) (hM : ∀ u, mid u → (M' u ↔ M u ∨ u = σ z ∨ u = τ (σ z))) : W1 σ τ mid P p (τ (σ z)) M' := by
  have up : ∀ u, mid u → M u → M' u := fun u a b => (hM u a).2 (.inl b)
  refine ⟨h.pin, .inr ⟨tm _ hz, (hM _ (tm _ hz)).2 (.inr (.inr rfl))⟩, fun u hu ne => ?_, fun u um hu => ?_, fun u um hu => ?_, .t _ (.s _ h.cz)⟩
  · have old : ((mid u ∧ M u) ∨ (¬ mid u ∧ (P u ∨ u = p))) → ¬ mid (σ u) ∨ M' (σ u) := by
      intro q
      by_cases e : u = z
      · rw [e]; exact .inr ((hM _ hz).2 (.inr (.inl rfl)))
      · by_cases m : mid (σ u)
        · exact .inr (up _ m ((h.cl u q e).resolve_left (fun f => f m)))
        · exact .inl m
    rcases hu with ⟨um, hu⟩ | hu
    · rcases (hM u um).1 hu with e | e | e
      · exact old (.inl ⟨um, e⟩)
      · rw [e, hs z]
        rcases h.zin with f | ⟨f, g⟩
        · exact .inl (f ▸ h.pin)
        · exact .inr (up _ f g)
      · exact absurd e ne
    · exact old (.inr hu)
  · refine (hM _ (tm u um)).2 ?_
    rcases (hM u um).1 hu with e | e | e
    · exact .inl (h.ct u um e)
    · exact .inr (.inr (by rw [e]))
    · exact .inr (.inl (by rw [e, ht]))
  · rcases (hM u um).1 hu with e | e | e
    · exact h.low u um e
    · exact ⟨p, h.pin, e ▸ .s _ h.cz⟩
    · exact ⟨p, h.pin, e ▸ .t _ (.s _ h.cz)⟩
theorem W1.fin {σ τ : Nat → Nat} {mid P M : Nat → Prop} {p z : Nat} (h : W1 σ τ mid P p z M) (hz : ¬ mid (σ z)) : W0 σ τ mid (fun u => P u ∨ u = p) M := by
  refine ⟨fun u hu => ?_, h.ct, h.low⟩
  by_cases e : u = z
  · rw [e]; exact .inl hz
  · exact h.cl u hu e
theorem W0.all {σ τ : Nat → Nat} {mid P M : Nat → Prop} (h : W0 σ τ mid P M) (tout : ∀ u, ¬ mid u → τ u = u) (hP : ∀ u, ¬ mid u → P u ∨ σ u = u) : ∀ u, mid u → (M u ↔ ∃ o, ¬ mid o ∧ Conn σ τ o u) := by
  intro u um
  refine ⟨h.low u um, fun ⟨o, ho, hc⟩ => ?_⟩
  have all : ∀ v, Conn σ τ o v → ¬ mid v ∨ M v := by
    intro v hv
    induction hv with
    | refl => exact .inl ho
    | s y _ ih =>
      by_cases my : mid y
      · exact h.cl y (.inl ⟨my, ih.resolve_left (fun e => e my)⟩)
      · rcases hP y my with a | a
        · exact h.cl y (.inr ⟨my, a⟩)
        · rw [a]; exact .inl my
    | t y _ ih =>
      by_cases my : mid y
      · exact .inr (h.ct y my (ih.resolve_left (fun e => e my)))
      · rw [tout y my]; exact .inl my
  exact (all u hc).resolve_left (fun e => e um)
/-! ### indices and points -/
theorem tau_prs {f g : Nat → Nat} {σ : Nat → Nat} (k : Nat) : OK σ (prs f g k) → ∀ j, j < k → tau (prs f g k) (f j) = g j ∧ tau (prs f g k) (g j) = f j := by
  induction k with
  | zero => intro _ j hj; omega
  | succ k ih =>
    intro h j hj
    have h' := h
    obtain ⟨h0, h1, h2, h3, h4, h5⟩ := h'
    by_cases e : j = k
    · subst e; exact ⟨tau_fst _ _ _, tau_snd _ h0⟩
    · have hjk : j < k := by omega
      obtain ⟨a, b⟩ := ih h5 j hjk
      have p1 : pts (prs f g k) (f j) := (pts_prs _ _ _ _).2 ⟨j, hjk, .inl rfl⟩
      have p2 : pts (prs f g k) (g j) := (pts_prs _ _ _ _).2 ⟨j, hjk, .inr rfl⟩
      have q1 : f j ≠ f k := fun e => h3 (e ▸ p1)
      have q2 : f j ≠ g k := fun e => h4 (e ▸ p1)
      have q3 : g j ≠ f k := fun e => h3 (e ▸ p2)
      have q4 : g j ≠ g k := fun e => h4 (e ▸ p2)
      simp only [prs, tau]
      rw [if_neg q1, if_neg q2, if_neg q3, if_neg q4]
      exact ⟨a, b⟩
/-- the indices whose curves stay within the pairs, and the steps from one to another -/
structure Ixs (f g : Nat → Nat) (k : Nat) (σ : Nat → Nat) (U : Nat → Prop) (A B : Nat → Nat) : Prop where
  lt : ∀ m, U m → m < k
  u : ∀ m, m < k → (U m ↔ ∀ z, Conn σ (tau (prs f g k)) (f m) z → pts (prs f g k) z)
  sA : ∀ m, U m → U (A m) ∧ σ (f m) = f (A m)
  sB : ∀ m, U m → U (B m) ∧ σ (g m) = g (B m)
theorem Ixs.conn {f g : Nat → Nat} {k : Nat} {σ : Nat → Nat} {U : Nat → Prop} {A B : Nat → Nat} (h : Ixs f g k σ U A B) (ho : OK σ (prs f g k)) {j : Nat} (uj : U j) {z : Nat} (hz : Conn σ (tau (prs f g k)) (f j) z) : ∃ i, U i ∧ Conn A B j i ∧ (z = f i ∨ z = g i) := by
  induction hz with
  | refl => exact ⟨j, uj, .refl, .inl rfl⟩
  | s y _ ih =>
    obtain ⟨i, a, b, c⟩ := ih
    rcases c with c | c
    · have := h.sA i a; exact ⟨A i, this.1, .s _ b, .inl (by rw [c]; exact this.2)⟩
    · have := h.sB i a; exact ⟨B i, this.1, .t _ b, .inr (by rw [c]; exact this.2)⟩
  | t y _ ih =>
    obtain ⟨i, a, b, c⟩ := ih
    have := tau_prs k ho i (h.lt i a)
    rcases c with c | c
    · exact ⟨i, a, b, .inr (by rw [c]; exact this.1)⟩
    · exact ⟨i, a, b, .inl (by rw [c]; exact this.2)⟩
theorem Ixs.back {f g : Nat → Nat} {k : Nat} {σ : Nat → Nat} {U : Nat → Prop} {A B : Nat → Nat} (h : Ixs f g k σ U A B) (ho : OK σ (prs f g k)) {j i : Nat} (uj : U j) (hz : Conn A B j i) : U i ∧ Conn σ (tau (prs f g k)) (f j) (f i) := by
  induction hz with
  | refl => exact ⟨uj, .refl⟩
  | s y _ ih =>
    have := h.sA y ih.1
    exact ⟨this.1, this.2 ▸ .s _ ih.2⟩
  | t y _ ih =>
    have e := h.sB y ih.1
    have t1 := tau_prs k ho y (h.lt y ih.1)
    have t2 := tau_prs k ho (B y) (h.lt _ e.1)
    refine ⟨e.1, ?_⟩
    have := Conn.t _ (Conn.s _ (Conn.t _ ih.2))
    rwa [t1.1, e.2, t2.2] at this
theorem prs_ne {f g : Nat → Nat} {σ : Nat → Nat} (k : Nat) : OK σ (prs f g k) → ∀ i j, i < k → j < k → (f i = f j → i = j) ∧ f i ≠ g j ∧ (g i = g j → i = j) := by
  induction k with
  | zero => intro _ i j hi; omega
  | succ k ih =>
    intro h i j hi hj
    obtain ⟨h0, h1, h2, h3, h4, h5⟩ := h
    have p1 : ∀ i, i < k → f i ≠ f k ∧ g i ≠ f k ∧ f i ≠ g k ∧ g i ≠ g k := fun i hi => by
      have a : pts (prs f g k) (f i) := (pts_prs _ _ _ _).2 ⟨i, hi, .inl rfl⟩
      have b : pts (prs f g k) (g i) := (pts_prs _ _ _ _).2 ⟨i, hi, .inr rfl⟩
      exact ⟨fun e => h3 (e ▸ a), fun e => h3 (e ▸ b), fun e => h4 (e ▸ a), fun e => h4 (e ▸ b)⟩
    by_cases ei : i = k
    · by_cases ej : j = k
      · subst ei; subst ej; exact ⟨fun _ => rfl, h0, fun _ => rfl⟩
      · have := p1 j (by omega)
        subst ei
        exact ⟨fun e => absurd e.symm this.1, fun e => this.2.1 e.symm, fun e => absurd e.symm this.2.2.2⟩
    · have p := p1 i (by omega)
      by_cases ej : j = k
      · subst ej
        exact ⟨fun e => absurd e p.1, p.2.2.1, fun e => absurd e p.2.2.2⟩
      · exact ih h5 i j (by omega) (by omega)
theorem Ixs.symm {f g : Nat → Nat} {k : Nat} {σ : Nat → Nat} {U : Nat → Prop} {A B : Nat → Nat} (h : Ixs f g k σ U A B) (hi : Inv2 σ) (ho : OK σ (prs f g k)) {j i : Nat} (uj : U j) (hz : Conn A B j i) : Conn A B i j := by
  obtain ⟨ui, c⟩ := h.back ho uj hz
  obtain ⟨j', _, d, e⟩ := h.conn ho ui (c.symm hi (tau_inv ho))
  rename_i uj'
  have n := prs_ne k ho j j' (h.lt j uj) (h.lt j' uj')
  rcases e with e | e
  · rw [n.1 e]; exact d
  · exact absurd e n.2.1
theorem Ixs.mn {f g : Nat → Nat} {k : Nat} {σ : Nat → Nat} {U : Nat → Prop} {A B : Nat → Nat} (h : Ixs f g k σ U A B) (hi : Inv2 σ) (ho : OK σ (prs f g k)) {j : Nat} (hj : j < k) : Mn f g k σ j ↔ Fst U A B j := by
  constructor
  · intro m
    have uj : U j := (h.u j hj).2 (fun z hz => by obtain ⟨i, _, b, c⟩ := m z hz; exact (pts_prs _ _ _ _).2 ⟨i, b, c⟩)
    refine ⟨uj, fun i a b c => ?_⟩
    obtain ⟨_, c⟩ := h.back ho b c
    obtain ⟨i', d, e, f⟩ := m _ (c.symm hi (tau_inv ho))
    have n := prs_ne k ho i i' (by omega) e
    rcases f with f | f
    · have := n.1 f; omega
    · exact n.2.1 f
  · intro ⟨uj, hfst⟩ z hz
    obtain ⟨i, a, b, c⟩ := h.conn ho uj hz
    refine ⟨i, ?_, h.lt i a, c⟩
    refine Classical.byContradiction fun n => ?_
    exact hfst i (by omega) a (h.symm hi ho uj b)
end Go.Proofs.Ytjfkompfkgjdaaa.G
