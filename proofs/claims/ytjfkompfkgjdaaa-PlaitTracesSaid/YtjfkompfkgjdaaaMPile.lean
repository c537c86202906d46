/- The pile of open points, and pairings without crossings: plain. -/
import Derived.Test.YtjfkompfkgjdaaaPCx0
namespace Go.Proofs.Ytjfkompfkgjdaaa.G
/-! ### the pile of open points -/
def run (D : Nat → Nat) : Nat → Nat → List Nat → List Nat
  | 0, _, st => st
  | d + 1, x, [] => run D d (x + 1) [x]
  | d + 1, x, y :: st => if y = D x then run D d (x + 1) st else run D d (x + 1) (x :: y :: st)
/-- a pairing of the points below N -/
def PairN (N : Nat) (D : Nat → Nat) : Prop := ∀ x, x < N → D x < N ∧ D x ≠ x ∧ D (D x) = x
def NCD (N : Nat) (D : Nat → Nat) : Prop := ∀ a c, a < N → c < N → ¬ (a < c ∧ c < D a ∧ D a < D c)
/-- falling, below x -/
def Fall : Nat → List Nat → Prop
  | _, [] => True
  | x, y :: st => y < x ∧ Fall y st
theorem Fall.lt {x : Nat} {st : List Nat} (h : Fall x st) : ∀ z, z ∈ st → z < x := by
  induction st generalizing x with
  | nil => intro z hz; cases hz
  | cons y st ih =>
    intro z hz
    rcases List.mem_cons.1 hz with rfl | hz
    · exact h.1
    · have := ih h.2 z hz; have := h.1; omega
theorem Fall.mono {x y : Nat} {st : List Nat} (h : Fall x st) (hxy : x ≤ y) : Fall y st := by
  cases st with
  | nil => trivial
  | cons z st => exact ⟨by have := h.1; omega, h.2⟩
theorem run_back {N : Nat} {D : Nat → Nat} (hD : PairN N D) (d : Nat) : ∀ (x : Nat) (st : List Nat), x + d = N → Fall x st → run D d x st = [] →
    (∀ z, z ∈ st → x ≤ D z) ∧ ∀ a c, a < N → c < N → (a ∈ st ∨ x ≤ a) → (c ∈ st ∨ x ≤ c) → x ≤ D a → ¬ (a < c ∧ c < D a ∧ D a < D c) := by
  induction d with
  | zero =>
    intro x st hx _ h
    simp only [run] at h
    subst h
    refine ⟨fun z hz => (by cases hz), fun a c ha _ _ _ h => ?_⟩
    have := (hD a ha).1
    omega
  | succ d ih =>
    intro x st hx hf h
    have hxN : x < N := by omega
    have push : run D d (x + 1) (x :: st) = [] → (∀ z, z ∈ st → x ≤ D z) ∧ ∀ a c, a < N → c < N → (a ∈ st ∨ x ≤ a) → (c ∈ st ∨ x ≤ c) → x ≤ D a → ¬ (a < c ∧ c < D a ∧ D a < D c) := by
      intro h
      obtain ⟨h1, h2⟩ := ih (x + 1) (x :: st) (by omega) ⟨by omega, hf⟩ h
      have hx1 := h1 x List.mem_cons_self
      refine ⟨fun z hz => by have := h1 z (List.mem_cons_of_mem _ hz); omega, fun a c ha hc ma mc hda hcr => ?_⟩
      have e : D a ≠ x := fun e => by
        have := (hD a ha).2.2; rw [e] at this; omega
      refine h2 a c ha hc ?_ ?_ (by omega) hcr
      · rcases ma with ma | ma
        · exact .inl (List.mem_cons_of_mem _ ma)
        · by_cases q : a = x
          · exact .inl (q ▸ List.mem_cons_self)
          · exact .inr (by omega)
      · rcases mc with ma | ma
        · exact .inl (List.mem_cons_of_mem _ ma)
        · by_cases q : c = x
          · exact .inl (q ▸ List.mem_cons_self)
          · exact .inr (by omega)
    cases st with
    | nil => exact push h
    | cons y st =>
      simp only [run] at h
      by_cases c : y = D x
      · rw [if_pos c] at h
        have yx : y < x := hf.1
        obtain ⟨h1, h2⟩ := ih (x + 1) st (by omega) (hf.2.mono (by omega)) h
        have dy : D y = x := by rw [c, (hD x hxN).2.2]
        refine ⟨fun z hz => ?_, fun a b ha hb ma mb hda hcr => ?_⟩
        · rcases List.mem_cons.1 hz with rfl | hz
          · omega
          · have := h1 z hz; omega
        · have e : D a ≠ x := fun e => by
            have e2 := (hD a ha).2.2
            rw [e, ← c] at e2
            subst e2
            rcases mb with mb | mb
            · rcases List.mem_cons.1 mb with rfl | mb
              · omega
              · have := hf.2.lt b mb; omega
            · omega
          have mem : ∀ u, (u ∈ y :: st ∨ x ≤ u) → x + 1 ≤ D u → u ∈ st ∨ x + 1 ≤ u := by
            intro u mu hu
            rcases mu with mu | mu
            · rcases List.mem_cons.1 mu with rfl | mu
              · omega
              · exact .inl mu
            · by_cases q : u = x
              · subst q; omega
              · exact .inr (by omega)
          exact h2 a b ha hb (mem a ma (by omega)) (mem b mb (by omega)) (by omega) hcr
      · rw [if_neg c] at h
        exact push h
/-- the pile of a pairing without crossings: those that are still open -/
def Stay (N : Nat) (D : Nat → Nat) (x : Nat) (st : List Nat) : Prop := Fall x st ∧ ∀ z, z ∈ st ↔ z < x ∧ x ≤ D z
theorem open_step {N : Nat} {D : Nat → Nat} (hD : PairN N D) (hn : NCD N D) {x : Nat} (hx : x < N) {st : List Nat} (h : Stay N D x st) :
    (D x < x ∧ ∃ st', st = D x :: st' ∧ Stay N D (x + 1) st') ∨ (x < D x ∧ (∀ y st', st = y :: st' → y ≠ D x) ∧ Stay N D (x + 1) (x :: st)) := by
  obtain ⟨h1, h2, h3⟩ := hD x hx
  by_cases c : D x < x
  · refine .inl ⟨c, ?_⟩
    have m : D x ∈ st := (h.2 _).2 ⟨c, by omega⟩
    cases st with
    | nil => cases m
    | cons y st =>
      have hy := (h.2 y).1 List.mem_cons_self
      have e : y = D x := by
        refine Classical.byContradiction fun ne => ?_
        rcases List.mem_cons.1 m with q | q
        · exact ne q.symm
        · have l := h.1.2.lt _ q
          have hyN : y < N := by omega
          have : D y ≠ x := fun e => by have := (hD y hyN).2.2; rw [e] at this; exact ne this.symm
          exact hn (D x) y h1 hyN ⟨l, by omega, by omega⟩
      subst e
      refine ⟨st, rfl, h.1.2.mono (by omega), fun z => ⟨fun hz => ?_, fun hz => ?_⟩⟩
      · have l := h.1.2.lt z hz
        have := (h.2 z).1 (List.mem_cons_of_mem _ hz)
        have ne : D z ≠ x := fun e => by have := (hD z (by omega)).2.2; rw [e] at this; omega
        omega
      · have ne : z ≠ x := fun e => by subst e; omega
        rcases List.mem_cons.1 ((h.2 z).2 ⟨by omega, by omega⟩) with q | q
        · subst q; omega
        · exact q
  · refine .inr ⟨by omega, fun y st' e q => ?_, ⟨by omega, h.1⟩, fun z => ⟨fun hz => ?_, fun hz => ?_⟩⟩
    · have := (h.2 y).1 (by rw [e]; exact List.mem_cons_self); omega
    · rcases List.mem_cons.1 hz with rfl | hz
      · omega
      · have := (h.2 z).1 hz
        have ne : D z ≠ x := fun e => by have := (hD z (by omega)).2.2; rw [e] at this; omega
        omega
    · by_cases e : z = x
      · rw [e]; exact List.mem_cons_self
      · exact List.mem_cons_of_mem _ ((h.2 z).2 ⟨by omega, by omega⟩)
theorem open_run {N : Nat} {D : Nat → Nat} (hD : PairN N D) (hn : NCD N D) (d : Nat) : ∀ (x : Nat) (st : List Nat), x + d = N → Stay N D x st → run D d x st = [] := by
  induction d with
  | zero =>
    intro x st hx h
    obtain rfl : x = N := by omega
    simp only [run]
    cases st with
    | nil => rfl
    | cons y st =>
      have := (h.2 y).1 List.mem_cons_self
      have := (hD y (by omega)).1
      omega
  | succ d ih =>
    intro x st hx h
    rcases open_step hD hn (by omega : x < N) h with ⟨_, st', rfl, g⟩ | ⟨_, g1, g⟩
    · simp only [run]
      rw [if_pos trivial]
      exact ih (x + 1) st' (by omega) g
    · cases st with
      | nil => exact ih (x + 1) _ (by omega) g
      | cons y st =>
        simp only [run]
        rw [if_neg (g1 y st rfl)]
        exact ih (x + 1) _ (by omega) g
theorem run_iff {N : Nat} {D : Nat → Nat} (hD : PairN N D) : run D N 0 [] = [] ↔ NCD N D := by
  constructor
  · intro h a c ha hc
    exact (run_back hD N 0 [] (by omega) trivial h).2 a c ha hc (.inr (by omega)) (.inr (by omega)) (by omega)
  · intro h
    exact open_run hD h N 0 [] (by omega) ⟨trivial, fun z => ⟨fun hz => (by cases hz), fun hz => by omega⟩⟩
end Go.Proofs.Ytjfkompfkgjdaaa.G
