/- Parts of the proof of LawPlaitWords, one behind the other: MPile LDia LSelf LIdent MAssoc MPlan LAssoc LRef MTrace MTurn MPow PCf38 PCf39 LPow HCont PCf75 PCf49 LHook MHook LTop LWord MBfs LLex LPlace LRWord PurePlaitWords. -/
import Derived.Outline
import Derived.Lib.Hide
import Derived.Shelf.Abstract
import Derived.Test.YtjfkompfkgjdaaaJPlaitWords5
section
/- The pile of open points, and pairings without crossings: plain. -/
namespace Go.Proofs.Ytjfkompfkgjdaaa.G
/-! ### the pile of open points -/
def run (D : Nat → Nat) : Nat → Nat → List Nat → List Nat
  | 0, _, st => st
  | d + 1, x, [] => run D d (x + 1) [x]
  | d + 1, x, y :: st => if y = D x then run D d (x + 1) st else run D d (x + 1) (x :: y :: st)
/-- a pairing of the points below N -/
def PairN (N : Nat) (D : Nat → Nat) : Prop := ∀ x, x < N → D x < N ∧ D x ≠ x ∧ D (D x) = x
def NCD (N : Nat) (D : Nat → Nat) : Prop := ∀ a c, a < N → c < N → ¬ (a < c ∧ c < D a ∧ D a < D c)
/-- falling, below x -/
def Fall : Nat → List Nat → Prop
  | _, [] => True
  | x, y :: st => y < x ∧ Fall y st
theorem Fall.lt {x : Nat} {st : List Nat} (h : Fall x st) : ∀ z, z ∈ st → z < x := by
  induction st generalizing x with
  | nil => intro z hz; cases hz
  | cons y st ih =>
    intro z hz
    rcases List.mem_cons.1 hz with rfl | hz
    · exact h.1
    · have := ih h.2 z hz; have := h.1; omega
theorem Fall.mono {x y : Nat} {st : List Nat} (h : Fall x st) (hxy : x ≤ y) : Fall y st := by
  cases st with
  | nil => trivial
  | cons z st => exact ⟨by have := h.1; omega, h.2⟩
theorem run_back {N : Nat} {D : Nat → Nat} (hD : PairN N D) (d : Nat) : ∀ (x : Nat) (st : List Nat), x + d = N → Fall x st → run D d x st = [] →
    (∀ z, z ∈ st → x ≤ D z) ∧ ∀ a c, a < N → c < N → (a ∈ st ∨ x ≤ a) → (c ∈ st ∨ x ≤ c) → x ≤ D a → ¬ (a < c ∧ c < D a ∧ D a < D c) := by
  induction d with
  | zero =>
    intro x st hx _ h
    simp only [run] at h
    subst h
    refine ⟨fun z hz => (by cases hz), fun a c ha _ _ _ h => ?_⟩
    have := (hD a ha).1
    omega
  | succ d ih =>
    intro x st hx hf h
    have hxN : x < N := by omega
    have push : run D d (x + 1) (x :: st) = [] → (∀ z, z ∈ st → x ≤ D z) ∧ ∀ a c, a < N → c < N → (a ∈ st ∨ x ≤ a) → (c ∈ st ∨ x ≤ c) → x ≤ D a → ¬ (a < c ∧ c < D a ∧ D a < D c) := by
      intro h
      obtain ⟨h1, h2⟩ := ih (x + 1) (x :: st) (by omega) ⟨by omega, hf⟩ h
      have hx1 := h1 x List.mem_cons_self
      refine ⟨fun z hz => by have := h1 z (List.mem_cons_of_mem _ hz); omega, fun a c ha hc ma mc hda hcr => ?_⟩
      have e : D a ≠ x := fun e => by
        have := (hD a ha).2.2; rw [e] at this; omega
      refine h2 a c ha hc ?_ ?_ (by omega) hcr
      · rcases ma with ma | ma
        · exact .inl (List.mem_cons_of_mem _ ma)
        · by_cases q : a = x
          · exact .inl (q ▸ List.mem_cons_self)
          · exact .inr (by omega)
      · rcases mc with ma | ma
        · exact .inl (List.mem_cons_of_mem _ ma)
        · by_cases q : c = x
          · exact .inl (q ▸ List.mem_cons_self)
          · exact .inr (by omega)
    cases st with
    | nil => exact push h
    | cons y st =>
      simp only [run] at h
      by_cases c : y = D x
      · rw [if_pos c] at h
        have yx : y < x := hf.1
        obtain ⟨h1, h2⟩ := ih (x + 1) st (by omega) (hf.2.mono (by omega)) h
        have dy : D y = x := by rw [c, (hD x hxN).2.2]
        refine ⟨fun z hz => ?_, fun a b ha hb ma mb hda hcr => ?_⟩
        · rcases List.mem_cons.1 hz with rfl | hz
          · omega
          · have := h1 z hz; omega
        · have e : D a ≠ x := fun e => by
            have e2 := (hD a ha).2.2
            rw [e, ← c] at e2
            subst e2
            rcases mb with mb | mb
            · rcases List.mem_cons.1 mb with rfl | mb
              · omega
              · have := hf.2.lt b mb; omega
            · omega
          have mem : ∀ u, (u ∈ y :: st ∨ x ≤ u) → x + 1 ≤ D u → u ∈ st ∨ x + 1 ≤ u := by
            intro u mu hu
            rcases mu with mu | mu
            · rcases List.mem_cons.1 mu with rfl | mu
              · omega
              · exact .inl mu
            · by_cases q : u = x
              · subst q; omega
              · exact .inr (by omega)
          exact h2 a b ha hb (mem a ma (by omega)) (mem b mb (by omega)) (by omega) hcr
      · rw [if_neg c] at h
        exact push h
/-- the pile of a pairing without crossings: those that are still open -/
def Stay (N : Nat) (D : Nat → Nat) (x : Nat) (st : List Nat) : Prop := Fall x st ∧ ∀ z, z ∈ st ↔ z < x ∧ x ≤ D z
theorem open_step {N : Nat} {D : Nat → Nat} (hD : PairN N D) (hn : NCD N D) {x : Nat} (hx : x < N) {st : List Nat} (h : Stay N D x st) :
    (D x < x ∧ ∃ st', st = D x :: st' ∧ Stay N D (x + 1) st') ∨ (x < D x ∧ (∀ y st', st = y :: st' → y ≠ D x) ∧ Stay N D (x + 1) (x :: st)) := by
  obtain ⟨h1, h2, h3⟩ := hD x hx
  by_cases c : D x < x
  · refine .inl ⟨c, ?_⟩
    have m : D x ∈ st := (h.2 _).2 ⟨c, by omega⟩
    cases st with
    | nil => cases m
    | cons y st =>
      have hy := (h.2 y).1 List.mem_cons_self
      have e : y = D x := by
        refine Classical.byContradiction fun ne => ?_
        rcases List.mem_cons.1 m with q | q
        · exact ne q.symm
        · have l := h.1.2.lt _ q
          have hyN : y < N := by omega
          have : D y ≠ x := fun e => by have := (hD y hyN).2.2; rw [e] at this; exact ne this.symm
          exact hn (D x) y h1 hyN ⟨l, by omega, by omega⟩
      subst e
      refine ⟨st, rfl, h.1.2.mono (by omega), fun z => ⟨fun hz => ?_, fun hz => ?_⟩⟩
      · have l := h.1.2.lt z hz
        have := (h.2 z).1 (List.mem_cons_of_mem _ hz)
        have ne : D z ≠ x := fun e => by have := (hD z (by omega)).2.2; rw [e] at this; omega
        omega
      · have ne : z ≠ x := fun e => by subst e; omega
        rcases List.mem_cons.1 ((h.2 z).2 ⟨by omega, by omega⟩) with q | q
        · subst q; omega
        · exact q
  · refine .inr ⟨by omega, fun y st' e q => ?_, ⟨by omega, h.1⟩, fun z => ⟨fun hz => ?_, fun hz => ?_⟩⟩
    · have := (h.2 y).1 (by rw [e]; exact List.mem_cons_self); omega
    · rcases List.mem_cons.1 hz with rfl | hz
      · omega
      · have := (h.2 z).1 hz
        have ne : D z ≠ x := fun e => by have := (hD z (by omega)).2.2; rw [e] at this; omega
        omega
    · by_cases e : z = x
      · rw [e]; exact List.mem_cons_self
      · exact List.mem_cons_of_mem _ ((h.2 z).2 ⟨by omega, by omega⟩)
theorem open_run {N : Nat} {D : Nat → Nat} (hD : PairN N D) (hn : NCD N D) (d : Nat) : ∀ (x : Nat) (st : List Nat), x + d = N → Stay N D x st → run D d x st = [] := by
  induction d with
  | zero =>
    intro x st hx h
    obtain rfl : x = N := by omega
    simp only [run]
    cases st with
    | nil => rfl
    | cons y st =>
      have := (h.2 y).1 List.mem_cons_self
      have := (hD y (by omega)).1
      omega
  | succ d ih =>
    intro x st hx h
    rcases open_step hD hn (by omega : x < N) h with ⟨_, st', rfl, g⟩ | ⟨_, g1, g⟩
    · simp only [run]
      rw [if_pos trivial]
      exact ih (x + 1) st' (by omega) g
    · cases st with
      | nil => exact ih (x + 1) _ (by omega) g
      | cons y st =>
        simp only [run]
        rw [if_neg (g1 y st rfl)]
        exact ih (x + 1) _ (by omega) g
theorem run_iff {N : Nat} {D : Nat → Nat} (hD : PairN N D) : run D N 0 [] = [] ↔ NCD N D := by
  constructor
  · intro h a c ha hc
    exact (run_back hD N 0 [] (by omega) trivial h).2 a c ha hc (.inr (by omega)) (.inr (by omega)) (by omega)
  · intro h
    exact open_run hD h N 0 [] (by omega) ⟨trivial, fun z => ⟨fun hz => (by cases hz), fun hz => by omega⟩⟩
end Go.Proofs.Ytjfkompfkgjdaaa.G
end
section
/- What a diagram is, by the program (a pile along the border) and by the specification (no two pairs cross). -/
namespace Go.Proofs.Ytjfkompfkgjdaaa.L
open Go.RowKit Go.Proofs.Ytjfkompfkgjdaaa.PC Go.Proofs.YtjfkompfkgjdaaaW.PrintWords Go.Proofs.YtjfkompfkgjdaaaW.PrintLast Go.Proofs.Ytjfkompfkgjdaaa.G
/-- where a point lies along the border; and which point lies there -/
def bo (n i : Nat) : Nat := if i < n then i else 3 * n - 1 - i
theorem bo_lt {n i : Nat} (h : i < 2 * n) : bo n i < 2 * n := by unfold bo; split <;> omega
theorem bo_bo {n i : Nat} (h : i < 2 * n) : bo n (bo n i) = i := by
  unfold bo
  by_cases c : i < n
  · rw [if_pos c, if_pos c]
  · rw [if_neg c, if_neg (by omega)]; omega
theorem bo_inj {n i j : Nat} (hi : i < 2 * n) (hj : j < 2 * n) (h : bo n i = bo n j) : i = j := by rw [← bo_bo hi, h, bo_bo hj]
def bl (n : Nat) : List Int := (List.range (2 * n)).map (fun i => (bo n i : Int))
theorem bl_rd {n z : Nat} (h : z < 2 * n) : rd (bl n) (z : Int) = (bo n z : Int) := rd_range _ _ _ h
theorem bl_len (n : Nat) : (bl n).length = 2 * n := by simp [bl]
theorem border_l1 {n : Nat} (hn : n ≤ 1000) (d : Nat) : ∀ j, j + d = n → Ev (fun k => plait_border.l1 k (n : Int) ((List.range (n + j)).map (fun i => (bo n i : Int))) (n : Int) (j : Int)) (bl n) := by
  induction d with
  | zero =>
    intro j hj
    obtain rfl : j = n := by omega
    refine Ev.step (f := fun _ => some (bl j)) (fun k => ?_) (Ev.now _)
    simp only [plait_border.l1]
    rw [if_neg (by omega), show j + j = 2 * j by omega]; rfl
  | succ d ih =>
    intro j hj
    refine Ev.step (fun k => ?_) (ih (j + 1) (by omega))
    simp only [plait_border.l1]
    rw [if_pos (by omega), if_pos (by simp; omega), pw64 (x := 2 * (n : Int)) (by omega) (by omega), pw64 (x := 2 * (n : Int) - 1) (by omega) (by omega), pw64 (x := 2 * (n : Int) - 1 - (j : Int)) (by omega) (by omega), pw64 (by omega) (by omega)]
    rw [show n + (j + 1) = (n + j) + 1 by omega, List.range_succ, List.map_append]
    have e : ((bo n (n + j) : Nat) : Int) = 2 * (n : Int) - 1 - (j : Int) := by unfold bo; rw [if_neg (by omega)]; omega
    simp only [List.map_cons, List.map_nil, e]
    rfl
theorem border_l0 {n : Nat} (hn : n ≤ 1000) (d : Nat) : ∀ j, j + d = n → Ev (fun k => plait_border.l0 k (n : Int) ((List.range j).map (fun i => (bo n i : Int))) (n : Int) (j : Int)) (bl n) := by
  induction d with
  | zero =>
    intro j hj
    obtain rfl : j = n := by omega
    refine Ev.step (fun k => ?_) (border_l1 hn j 0 (by omega))
    simp only [plait_border.l0]
    rw [if_neg (by omega)]; rfl
  | succ d ih =>
    intro j hj
    refine Ev.step (fun k => ?_) (ih (j + 1) (by omega))
    simp only [plait_border.l0]
    rw [if_pos (by omega), if_pos (by simp; omega), pw64 (by omega) (by omega), List.range_succ, List.map_append]
    have e : ((bo n j : Nat) : Int) = (j : Int) := by unfold bo; rw [if_pos (by omega)]
    simp only [List.map_cons, List.map_nil, e]
    rfl
theorem border_ev {n : Nat} (hn : n ≤ 1000) : Ev (fun k => plait_border.f k (n : Int)) (bl n) := Ev.congr (fun k => rfl) (border_l0 hn n 0 (by omega))
theorem refborder {n i : Nat} (hn : n ≤ 1000) (hi : i < 2 * n) : pomaderef07_border.f (n : Int) (i : Int) = some (bo n i : Int) := by
  unfold pomaderef07_border.f bo
  by_cases c : i < n
  · rw [if_pos (by omega), if_pos c]
  · rw [if_neg (by omega), if_neg c, pw64 (x := 3 * (n : Int)) (by omega) (by omega), pw64 (x := 3 * (n : Int) - 1) (by omega) (by omega), pw64 (by omega) (by omega)]
    congr 1; omega
/-- the point has no right partner -/
def bad (l : List Int) (p : Nat) : Prop := rd l (p : Int) < 0 ∨ rd l (p : Int) ≥ (l.length : Int) ∨ rd l (p : Int) = (p : Int) ∨ rd l (rd l (p : Int)) ≠ (p : Int)
theorem lm_of {n : Nat} {l : List Int} (hl : l.length = 2 * n) (h : ∀ p, p < 2 * n → ¬ bad l p) : LM n l := by
  have h1 : ∀ p, p < 2 * n → rd l (p : Int) = (fn l p : Int) ∧ fn l p < 2 * n := by
    intro p hp
    have := h p hp
    unfold bad at this
    unfold fn
    omega
  refine ⟨hl, fun z hz => (h1 z hz).1, fun z hz => ⟨(h1 z hz).2, fun e => ?_, ?_⟩⟩
  · refine h z hz (.inr (.inr (.inl ?_)))
    rw [(h1 z hz).1, e]
  · refine Classical.byContradiction fun e => h z hz (.inr (.inr (.inr ?_)))
    rw [(h1 z hz).1, (h1 _ (h1 z hz).2).1]
    omega
theorem LM.good {n : Nat} {l : List Int} (h : LM n l) {p : Nat} (hp : p < 2 * n) : ¬ bad l p := by
  have h1 := h.nn p hp
  have h2 := h.mat p hp
  have h3 := h.nn _ h2.1
  have hl := h.len
  unfold bad
  rw [h1, h3, h2.2.2]
  omega
instance (l : List Int) (p : Nat) : Decidable (bad l p) := by unfold bad; infer_instance
theorem arch_l0 {n : Nat} {l : List Int} (hn : n ≤ 1000) (hl : l.length = 2 * n) (x : Nat) (hx : x < 2 * n) (st out : List Int) (k : Nat) :
    plait_diagram_arches.l0 (k + 1) l st out (bl n) ((2 * n : Nat) : Int) (x : Int) = plait_diagram_arches.j2 k l st out (bo n x : Int) (rd l (bo n x : Int)) (bl n) ((2 * n : Nat) : Int) (x : Int) (decide (bad l (bo n x))) := by
  have hb := bo_lt hx
  have hbl := bl_len n
  simp only [plait_diagram_arches.l0]
  rw [if_pos (by omega), if_pos (by omega), if_pos (by omega), bl_rd hx, if_pos (by omega), if_pos (by omega)]
  by_cases c1 : rd l (bo n x : Int) < 0
  · rw [if_pos c1, decide_eq_true (.inl c1)]
  · rw [if_neg c1]
    by_cases c2 : rd l (bo n x : Int) ≥ (l.length : Int)
    · rw [if_pos c2, decide_eq_true (.inr (.inl c2))]
    · rw [if_neg c2]
      by_cases c3 : rd l (bo n x : Int) = (bo n x : Int)
      · rw [if_pos c3, decide_eq_true (.inr (.inr (.inl c3)))]
      · rw [if_neg c3, if_pos (by omega), if_pos (by omega)]
        congr 1
        by_cases c4 : rd l (rd l (bo n x : Int)) = (bo n x : Int)
        · rw [c4, decide_eq_false (by unfold bad; omega)]; exact bne_self_eq_false ..
        · rw [decide_eq_true (.inr (.inr (.inr c4)))]; exact bne_iff_ne.2 c4
/-- a point without a right partner: none -/
theorem arch_bad {n : Nat} {l : List Int} (hn : n ≤ 1000) (hl : l.length = 2 * n) (d : Nat) : ∀ (x : Nat) (st out : List Int), x + d = 2 * n → st.length ≤ x → out.length ≤ x → (∃ y, x ≤ y ∧ y < 2 * n ∧ bad l (bo n y)) →
    Ev (fun k => plait_diagram_arches.l0 k l st out (bl n) ((2 * n : Nat) : Int) (x : Int)) ((⟨#[]⟩ : ByteArray), false) := by
  induction d with
  | zero => intro x st out hx _ _ ⟨y, a, b, _⟩; omega
  | succ d ih =>
    intro x st out hx hs ho hy
    refine Ev.step (fun k => arch_l0 hn hl x (by omega) st out k) ?_
    by_cases c : bad l (bo n x)
    · refine Ev.step (f := fun _ => some ((⟨#[]⟩ : ByteArray), false)) (fun k => ?_) (Ev.now _)
      rw [decide_eq_true c]
      simp only [plait_diagram_arches.j2]
      rw [if_pos trivial]
    · have hy' : ∃ y, x + 1 ≤ y ∧ y < 2 * n ∧ bad l (bo n y) := by
        obtain ⟨y, a, b, e⟩ := hy
        have : y ≠ x := fun q => c (q ▸ e)
        exact ⟨y, by omega, b, e⟩
      have e1 : wrap64 ((x : Int) + 1) = ((x + 1 : Nat) : Int) := by rw [pw64 (by omega) (by omega)]; rfl
      rw [decide_eq_false c]
      by_cases c1 : (st.length : Int) > 0
      · have ew : wrap64 ((st.length : Int) - 1) = (st.length : Int) - 1 := pw64 (by omega) (by omega)
        by_cases c2 : rd st ((st.length : Int) - 1) = rd l (bo n x : Int)
        · refine Ev.step (fun k => ?_) (ih (x + 1) (st.take ((st.length : Int) - 1).toNat) (out ++ [41]) (by omega) (by rw [List.length_take]; omega) (by simp; omega) hy')
          simp only [plait_diagram_arches.j2]
          rw [if_neg (by decide), if_pos c1, ew, if_pos (by omega), if_pos (by omega), if_pos c2, if_pos (by omega), if_pos (by omega), e1]
        · refine Ev.step (fun k => ?_) (ih (x + 1) (st ++ [(bo n x : Int)]) (out ++ [40]) (by omega) (by simp; omega) (by simp; omega) hy')
          simp only [plait_diagram_arches.j2]
          rw [if_neg (by decide), if_pos c1, ew, if_pos (by omega), if_pos (by omega), if_neg c2, if_pos (by omega), if_pos (by omega), e1]
      · refine Ev.step (fun k => ?_) (ih (x + 1) (st ++ [(bo n x : Int)]) (out ++ [40]) (by omega) (by simp; omega) (by simp; omega) hy')
        simp only [plait_diagram_arches.j2]
        rw [if_neg (by decide), if_neg c1, if_pos (by omega), if_pos (by omega), e1]
/-- the partner along the border -/
def Db (n : Nat) (l : List Int) (x : Nat) : Nat := bo n (fn l (bo n x))
theorem db_pair {n : Nat} {l : List Int} (h : LM n l) : PairN (2 * n) (Db n l) := by
  intro x hx
  have h1 := bo_lt hx
  have h2 := h.mat _ h1
  refine ⟨bo_lt h2.1, fun e => ?_, ?_⟩
  · have := congrArg (bo n) e
    unfold Db at this
    rw [bo_bo h2.1] at this
    exact h2.2.1 this
  · unfold Db
    rw [bo_bo h2.1, h2.2.2, bo_bo hx]
/-- the brackets that the pile gives -/
def rout (D : Nat → Nat) : Nat → Nat → List Nat → List Int
  | 0, _, _ => []
  | d + 1, x, [] => 40 :: rout D d (x + 1) [x]
  | d + 1, x, y :: st => if y = D x then 41 :: rout D d (x + 1) st else 40 :: rout D d (x + 1) (x :: y :: st)
def pile (n : Nat) (st : List Nat) : List Int := (st.map (fun y => (bo n y : Int))).reverse
theorem pile_cons (n y : Nat) (st : List Nat) : pile n (y :: st) = pile n st ++ [(bo n y : Int)] := by simp [pile]
theorem pile_len (n : Nat) (st : List Nat) : (pile n st).length = st.length := by simp [pile]
theorem pile_top (n y : Nat) (st : List Nat) : rd (pile n (y :: st)) (((pile n (y :: st)).length : Int) - 1) = (bo n y : Int) := by
  have e : (((pile n (y :: st)).length : Int) - 1).toNat = (pile n st).length := by rw [pile_len, pile_len]; simp
  unfold rd
  rw [e, pile_cons]
  simp [List.getD_eq_getElem?_getD]
theorem pile_pop (n y : Nat) (st : List Nat) : (pile n (y :: st)).take (((pile n (y :: st)).length : Int) - 1).toNat = pile n st := by
  have e : (((pile n (y :: st)).length : Int) - 1).toNat = (pile n st).length := by rw [pile_len, pile_len]; simp
  rw [e, pile_cons]
  simp
theorem arch_run {n : Nat} {l : List Int} (hn : n ≤ 1000) (h : LM n l) (d : Nat) : ∀ (x : Nat) (st : List Nat) (out : List Int), x + d = 2 * n → (∀ y, y ∈ st → y < 2 * n) → st.length ≤ x → out.length ≤ x →
    Ev (fun k => plait_diagram_arches.l0 k l (pile n st) out (bl n) ((2 * n : Nat) : Int) (x : Int)) (strOfNums (out ++ rout (Db n l) d x st), (run (Db n l) d x st).isEmpty) := by
  have hl := h.len
  induction d with
  | zero =>
    intro x st out hx hst hs ho
    refine Ev.step (f := fun _ => some (strOfNums (out ++ []), st.isEmpty)) (fun k => ?_) (Ev.now _)
    simp only [plait_diagram_arches.l0]
    rw [if_neg (by omega), List.append_nil, pile_len]
    cases st with
    | nil => rfl
    | cons y st => rfl
  | succ d ih =>
    intro x st out hx hst hs ho
    have hxl : x < 2 * n := by omega
    have hb := bo_lt hxl
    refine Ev.step (fun k => arch_l0 hn hl x hxl _ out k) ?_
    rw [decide_eq_false (h.good hb)]
    have e1 : wrap64 ((x : Int) + 1) = ((x + 1 : Nat) : Int) := by rw [pw64 (by omega) (by omega)]; rfl
    have q := h.nn _ hb
    cases st with
    | nil =>
      have g := ih (x + 1) [x] (out ++ [40]) (by omega) (fun y hy => by simp at hy; omega) (by simp) (by simp; omega)
      rw [pile_cons] at g
      simp only [run, rout]
      rw [List.append_assoc] at g
      refine Ev.step (fun k => ?_) g
      simp only [plait_diagram_arches.j2]
      have e0 : (pile n []).length = 0 := rfl
      rw [if_neg (by decide), if_neg (by omega), if_pos (by omega), if_pos (by omega), e1]
    | cons y st =>
      have hy := hst y List.mem_cons_self
      have pl := pile_len n (y :: st)
      have sl : (y :: st).length = st.length + 1 := rfl
      have ew : wrap64 (((pile n (y :: st)).length : Int) - 1) = ((pile n (y :: st)).length : Int) - 1 := pw64 (by omega) (by omega)
      have hD : y = Db n l x ↔ rd (pile n (y :: st)) (((pile n (y :: st)).length : Int) - 1) = rd l (bo n x : Int) := by
        rw [pile_top, q]
        unfold Db
        constructor
        · intro e; rw [e, bo_bo (h.mat _ hb).1]
        · intro e
          have : bo n y = fn l (bo n x) := by omega
          rw [← this, bo_bo hy]
      by_cases c : y = Db n l x
      · have g := ih (x + 1) st (out ++ [41]) (by omega) (fun z hz => hst z (List.mem_cons_of_mem _ hz)) (by omega) (by simp; omega)
        simp only [run, rout]
        rw [if_pos c, if_pos c]
        rw [List.append_assoc] at g
        refine Ev.step (fun k => ?_) g
        simp only [plait_diagram_arches.j2]
        rw [if_neg (by decide), if_pos (by omega), ew, if_pos (by omega), if_pos (by omega), if_pos (hD.1 c), if_pos (by omega), if_pos (by omega), e1, pile_pop]
      · have g := ih (x + 1) (x :: y :: st) (out ++ [40]) (by omega) (fun z hz => by
          rcases List.mem_cons.1 hz with rfl | hz
          · exact hxl
          · exact hst z hz) (by simp at hs ⊢; omega) (by simp; omega)
        simp only [run, rout]
        rw [if_neg c, if_neg c]
        rw [pile_cons, List.append_assoc] at g
        refine Ev.step (fun k => ?_) g
        simp only [plait_diagram_arches.j2]
        rw [if_neg (by decide), if_pos (by omega), ew, if_pos (by omega), if_pos (by omega), if_neg (fun e => c (hD.2 e)), if_pos (by omega), if_pos (by omega), e1]
/-- a diagram -/
structure Dia (n : Nat) (l : List Int) : Prop where
  pos : 0 < n
  lim : n ≤ 10
  lm : LM n l
  nc : NCD (2 * n) (Db n l)
/-- its brackets -/
def brk (n : Nat) (l : List Int) : List Int := (List.range (2 * n)).map (fun x => if Db n l x < x then 41 else 40)
theorem rout_nc {N : Nat} {D : Nat → Nat} (hD : PairN N D) (hn : NCD N D) (d : Nat) : ∀ (x : Nat) (st : List Nat), x + d = N → Stay N D x st → (List.range x).map (fun y => if D y < y then (41 : Int) else 40) ++ rout D d x st = (List.range N).map (fun y => if D y < y then (41 : Int) else 40) := by
  induction d with
  | zero => intro x st hx _; obtain rfl : x = N := by omega
            simp [rout]
  | succ d ih =>
    intro x st hx h
    rcases open_step hD hn (by omega : x < N) h with ⟨c, st', rfl, g⟩ | ⟨c, g1, g⟩
    · rw [← ih (x + 1) st' (by omega) g, List.range_succ, List.map_append]
      simp [rout, c]
    · rw [← ih (x + 1) _ (by omega) g, List.range_succ, List.map_append]
      have c' : ¬ D x < x := by omega
      cases st with
      | nil => simp [rout, c']
      | cons y st => simp [rout, c', g1 y st rfl]
theorem arches_start {n : Nat} {l : List Int} (hn : n ≤ 1000) (hp : 0 < n) (hl : l.length = 2 * n) {r : ByteArray × Bool} (h : Ev (fun k => plait_diagram_arches.l0 k l [] [] (bl n) ((2 * n : Nat) : Int) ((0 : Nat) : Int)) r) : Ev (fun k => plait_diagram_arches.f k l) r := by
  have e : wrap64 ((l.length : Int) / 2) = (n : Int) := by rw [pw64 (by omega) (by omega)]; omega
  refine Ev.congr (f := fun k => plait_diagram_arches.j0 k l false) (fun k => ?_) ?_
  · unfold plait_diagram_arches.f
    rw [if_neg (by omega)]
    congr 1
    have : (l.length : Int) % 2 = 0 := by omega
    rw [this]; rfl
  · refine Ev.step (f := fun k => (plait_border.f k (n : Int)).bind fun t108 => plait_diagram_arches.l0 k l ([] : List Int) ([] : List Int) t108 (t108.length : Int) 0) (fun k => ?_) ?_
    · simp only [plait_diagram_arches.j0]
      rw [if_neg (by decide)]
      unfold plait_diagram_size.f
      rw [Option.bind_some, e]
    · refine Ev.bind (border_ev hn) ?_
      rw [bl_len]
      exact h
theorem arches_odd {l : List Int} (hl : l.length % 2 = 1 ∨ l.length = 0) : Ev (fun k => plait_diagram_arches.f k l) ((⟨#[]⟩ : ByteArray), false) := by
  refine Ev.congr (f := fun k => plait_diagram_arches.j0 k l true) (fun k => ?_) (Ev.step (f := fun _ => some ((⟨#[]⟩ : ByteArray), false)) (fun k => ?_) (Ev.now _))
  · unfold plait_diagram_arches.f
    by_cases c : l.length = 0
    · rw [if_pos (by omega)]
    · rw [if_neg (by omega)]
      congr 1
      have : (l.length : Int) % 2 = 1 := by omega
      rw [this]; rfl
  · simp only [plait_diagram_arches.j0]
    rw [if_pos trivial]
/-! ### by the specification -/
def Crs (n : Nat) (l : List Int) (i k : Nat) : Prop := bo n i < bo n k ∧ bo n k < bo n (fn l i) ∧ bo n (fn l i) < bo n (fn l k)
theorem crs_nc {n : Nat} {l : List Int} : NCD (2 * n) (Db n l) ↔ ∀ i k, i < 2 * n → k < 2 * n → ¬ Crs n l i k := by
  constructor
  · intro h i k hi hk c
    have := h (bo n i) (bo n k) (bo_lt hi) (bo_lt hk)
    unfold Db at this
    rw [bo_bo hi, bo_bo hk] at this
    exact this c
  · intro h a c ha hc
    have := h (bo n a) (bo n c) (bo_lt ha) (bo_lt hc)
    unfold Crs at this
    rw [bo_bo ha, bo_bo hc] at this
    exact this
instance (n : Nat) (l : List Int) (i k : Nat) : Decidable (Crs n l i k) := by unfold Crs; infer_instance
theorem dia_l2 {n : Nat} {l : List Int} (hn : n ≤ 1000) (h : LM n l) (i x : Nat) (hi : i < 2 * n) (hx : x < 2 * n) (k : Nat) : pomaderef07_Diagram.l2 (k + 1) l (n : Int) (i : Int) (x : Int) = if Crs n l i x then some 2 else pomaderef07_Diagram.l2 k l (n : Int) (i : Int) ((x + 1 : Nat) : Int) := by
  have hl := h.len
  have e1 : wrap64 ((x : Int) + 1) = ((x + 1 : Nat) : Int) := by rw [pw64 (by omega) (by omega)]; rfl
  simp only [pomaderef07_Diagram.l2]
  rw [if_pos (by omega), refborder hn hi, Option.bind_some, if_pos (by omega), if_pos (by omega), h.nn i hi, refborder hn (h.mat i hi).1, Option.bind_some, refborder hn hx, Option.bind_some, if_pos (by omega), h.nn x hx, refborder hn (h.mat x hx).1, Option.bind_some, e1]
  by_cases c1 : bo n i < bo n x
  · rw [if_pos (by omega)]
    by_cases c2 : bo n x < bo n (fn l i)
    · rw [if_pos (by omega)]
      by_cases c3 : bo n (fn l i) < bo n (fn l x)
      · rw [if_pos (by omega), if_pos (show Crs n l i x from ⟨c1, c2, c3⟩)]
      · rw [if_neg (by omega), if_neg (fun c : Crs n l i x => c3 c.2.2)]
    · rw [if_neg (by omega), if_neg (fun c : Crs n l i x => c2 c.2.1)]
  · rw [if_neg (by omega), if_neg (fun c : Crs n l i x => c1 c.1)]
theorem dia_l2_hit {n : Nat} {l : List Int} (hn : n ≤ 1000) (h : LM n l) (i : Nat) (hi : i < 2 * n) (d : Nat) : ∀ x, x + d = 2 * n → (∃ y, x ≤ y ∧ y < 2 * n ∧ Crs n l i y) → Ev (fun k => pomaderef07_Diagram.l2 k l (n : Int) (i : Int) (x : Int)) 2 := by
  induction d with
  | zero => intro x hx ⟨y, a, b, _⟩; omega
  | succ d ih =>
    intro x hx ⟨y, a, b, e⟩
    by_cases c : Crs n l i x
    · exact Ev.step (f := fun _ => some 2) (fun k => by rw [dia_l2 hn h i x hi (by omega) k, if_pos c]) (Ev.now _)
    · refine Ev.step (fun k => by rw [dia_l2 hn h i x hi (by omega) k, if_neg c]) (ih (x + 1) (by omega) ⟨y, ?_, b, e⟩)
      have : y ≠ x := fun q => c (q ▸ e)
      omega
theorem dia_l2_miss {n : Nat} {l : List Int} (hn : n ≤ 1000) (h : LM n l) (i : Nat) (hi : i < 2 * n) {r : Int} (hr : Ev (fun k => pomaderef07_Diagram.l1 k l (n : Int) ((i + 1 : Nat) : Int)) r) (d : Nat) : ∀ x, x + d = 2 * n → (∀ y, x ≤ y → y < 2 * n → ¬ Crs n l i y) → Ev (fun k => pomaderef07_Diagram.l2 k l (n : Int) (i : Int) (x : Int)) r := by
  have hl := h.len
  induction d with
  | zero =>
    intro x hx _
    refine Ev.step (fun k => ?_) hr
    simp only [pomaderef07_Diagram.l2]
    rw [if_neg (by omega), pw64 (by omega) (by omega)]; rfl
  | succ d ih =>
    intro x hx hc
    exact Ev.step (fun k => by rw [dia_l2 hn h i x hi (by omega) k, if_neg (hc x (by omega) (by omega))]) (ih (x + 1) (by omega) (fun y a b => hc y (by omega) b))
theorem dia_l1_hit {n : Nat} {l : List Int} (hn : n ≤ 1000) (h : LM n l) (d : Nat) : ∀ i, i + d = 2 * n → (∃ j, i ≤ j ∧ j < 2 * n ∧ ∃ y, y < 2 * n ∧ Crs n l j y) → Ev (fun k => pomaderef07_Diagram.l1 k l (n : Int) (i : Int)) 2 := by
  have hl := h.len
  induction d with
  | zero => intro x hx ⟨y, a, b, _⟩; omega
  | succ d ih =>
    intro i hi ⟨j, a, b, y, e, f⟩
    refine Ev.step (f := fun k => pomaderef07_Diagram.l2 k l (n : Int) (i : Int) ((0 : Nat) : Int)) (fun k => by simp only [pomaderef07_Diagram.l1]; rw [if_pos (by omega)]; rfl) ?_
    by_cases c : ∃ y, y < 2 * n ∧ Crs n l i y
    · obtain ⟨y, c1, c2⟩ := c
      exact dia_l2_hit hn h i (by omega) (2 * n) 0 (by omega) ⟨y, by omega, c1, c2⟩
    · refine dia_l2_miss hn h i (by omega) (ih (i + 1) (by omega) ⟨j, ?_, b, y, e, f⟩) (2 * n) 0 (by omega) (fun y _ g k => c ⟨y, g, k⟩)
      have : j ≠ i := fun q => c ⟨y, e, q ▸ f⟩
      omega
theorem dia_l1_miss {n : Nat} {l : List Int} (hn : n ≤ 1000) (h : LM n l) (hc : ∀ i k, i < 2 * n → k < 2 * n → ¬ Crs n l i k) (d : Nat) : ∀ i, i + d = 2 * n → Ev (fun k => pomaderef07_Diagram.l1 k l (n : Int) (i : Int)) 0 := by
  have hl := h.len
  induction d with
  | zero =>
    intro i hi
    refine Ev.step (f := fun _ => some 0) (fun k => ?_) (Ev.now _)
    simp only [pomaderef07_Diagram.l1]
    rw [if_neg (by omega)]
  | succ d ih =>
    intro i hi
    refine Ev.step (f := fun k => pomaderef07_Diagram.l2 k l (n : Int) (i : Int) ((0 : Nat) : Int)) (fun k => by simp only [pomaderef07_Diagram.l1]; rw [if_pos (by omega)]; rfl) ?_
    exact dia_l2_miss hn h i (by omega) (ih (i + 1) (by omega)) (2 * n) 0 (by omega) (fun y _ g => hc i y (by omega) g)
theorem dia_l0 {l : List Int} {n : Nat} (x : Nat) (hx : x < l.length) (hl : l.length ≤ 1000) (k : Nat) : (bad l x → pomaderef07_Diagram.l0 (k + 1) l (n : Int) (x : Int) = some 2) ∧ (¬ bad l x → pomaderef07_Diagram.l0 (k + 1) l (n : Int) (x : Int) = pomaderef07_Diagram.l0 k l (n : Int) ((x + 1 : Nat) : Int)) := by
  have e1 : wrap64 ((x : Int) + 1) = ((x + 1 : Nat) : Int) := by rw [pw64 (by omega) (by omega)]; rfl
  simp only [pomaderef07_Diagram.l0]
  rw [if_pos (by omega), if_pos (by omega), e1]
  unfold bad
  by_cases c1 : rd l (x : Int) < 0
  · rw [if_pos c1]; exact ⟨fun _ => rfl, fun h => absurd (.inl c1) h⟩
  · rw [if_neg c1]
    by_cases c2 : rd l (x : Int) ≥ (l.length : Int)
    · rw [if_pos c2]; exact ⟨fun _ => rfl, fun h => absurd (.inr (.inl c2)) h⟩
    · rw [if_neg c2]
      by_cases c3 : rd l (x : Int) = (x : Int)
      · rw [if_pos c3]; exact ⟨fun _ => rfl, fun h => absurd (.inr (.inr (.inl c3))) h⟩
      · rw [if_neg c3, if_pos (by omega), if_pos (by omega)]
        by_cases c4 : rd l (rd l (x : Int)) = (x : Int)
        · rw [if_pos c4]; exact ⟨fun h => by omega, fun _ => rfl⟩
        · rw [if_neg c4]; exact ⟨fun _ => rfl, fun h => absurd (.inr (.inr (.inr c4))) h⟩
theorem dia_l0_hit {l : List Int} {n : Nat} (hl : l.length ≤ 1000) (d : Nat) : ∀ x, x + d = l.length → (∃ y, x ≤ y ∧ y < l.length ∧ bad l y) → Ev (fun k => pomaderef07_Diagram.l0 k l (n : Int) (x : Int)) 2 := by
  induction d with
  | zero => intro x hx ⟨y, a, b, _⟩; omega
  | succ d ih =>
    intro x hx ⟨y, a, b, e⟩
    by_cases c : bad l x
    · exact Ev.step (f := fun _ => some 2) (fun k => (dia_l0 x (by omega) hl k).1 c) (Ev.now _)
    · refine Ev.step (fun k => (dia_l0 x (by omega) hl k).2 c) (ih (x + 1) (by omega) ⟨y, ?_, b, e⟩)
      have : y ≠ x := fun q => c (q ▸ e)
      omega
theorem dia_l0_miss {l : List Int} {n : Nat} (hl : l.length ≤ 1000) (h : ∀ y, y < l.length → ¬ bad l y) {r : Int} (hr : Ev (fun k => pomaderef07_Diagram.l1 k l (n : Int) ((0 : Nat) : Int)) r) (d : Nat) : ∀ x, x + d = l.length → Ev (fun k => pomaderef07_Diagram.l0 k l (n : Int) (x : Int)) r := by
  induction d with
  | zero =>
    intro x hx
    refine Ev.step (fun k => ?_) hr
    simp only [pomaderef07_Diagram.l0]
    rw [if_neg (by omega)]; rfl
  | succ d ih =>
    intro x hx
    exact Ev.step (fun k => (dia_l0 x (by omega) hl k).2 (h x (by omega))) (ih (x + 1) (by omega))
theorem dia_odd {l : List Int} (hl : l.length ≤ 20) (h : l.length % 2 = 1 ∨ l.length = 0) : Ev (fun k => pomaderef07_Diagram.f k l) 2 := by
  have e : wrap64 ((l.length : Int) / 2) = (l.length : Int) / 2 := pw64 (by omega) (by omega)
  refine Ev.congr (f := fun k => pomaderef07_Diagram.j0 k l ((l.length : Int) / 2) true) (fun k => ?_) (Ev.step (f := fun _ => some 2) (fun k => ?_) (Ev.now _))
  · unfold pomaderef07_Diagram.f
    rw [if_neg (by omega), e]
    by_cases c : (l.length : Int) / 2 < 1
    · rw [if_pos c]
    · rw [if_neg c]
      congr 1
      have : (l.length : Int) % 2 = 1 := by omega
      rw [this]; rfl
  · simp only [pomaderef07_Diagram.j0]
    rw [if_pos trivial]
theorem dia_even {l : List Int} {n : Nat} (hn : 0 < n) (hn2 : n ≤ 10) (hl : l.length = 2 * n) {r : Int} (hr : Ev (fun k => pomaderef07_Diagram.l0 k l (n : Int) ((0 : Nat) : Int)) r) : Ev (fun k => pomaderef07_Diagram.f k l) r := by
  have e : wrap64 ((l.length : Int) / 2) = (n : Int) := by rw [pw64 (by omega) (by omega)]; omega
  refine Ev.congr (f := fun k => pomaderef07_Diagram.j0 k l (n : Int) false) (fun k => ?_) (Ev.step (fun k => ?_) hr)
  · unfold pomaderef07_Diagram.f
    rw [if_neg (by omega), e, if_neg (by omega)]
    congr 1
    have : (l.length : Int) % 2 = 0 := by omega
    rw [this]; rfl
  · simp only [pomaderef07_Diagram.j0]
    rw [if_neg (by decide)]; rfl
/-- what the program and the specification say of a list -/
theorem dia_both (l : List Int) : ∃ e : Int, Ev (fun k => plait_of.f k l) e ∧ Ev (fun k => pomaderef07_Diagram.f k l) e ∧ ((e = 3 ∧ l.length > 20) ∨ (e = 2 ∧ l.length ≤ 20) ∨ (e = 0 ∧ ∃ n, Dia n l ∧ Ev (fun k => plait_diagram_arches.f k l) (strOfNums (brk n l), true))) := by
  by_cases c0 : l.length > 20
  · refine ⟨3, Ev.congr (fun k => ?_) (Ev.now _), Ev.congr (fun k => ?_) (Ev.now _), .inl ⟨rfl, c0⟩⟩
    · unfold plait_of.f; rw [if_pos (by omega)]
    · unfold pomaderef07_Diagram.f; rw [if_pos (by omega)]
  · have ofs : ∀ s b, Ev (fun k => plait_diagram_arches.f k l) (s, b) → Ev (fun k => plait_of.f k l) (if b = true then 0 else 2) := by
      intro s b hs
      refine Ev.congr (fun k => by unfold plait_of.f; rw [if_neg (by omega)]) (Ev.bind hs ?_)
      cases b with
      | true => exact Ev.now _
      | false => exact Ev.now _
    by_cases c1 : l.length % 2 = 1 ∨ l.length = 0
    · exact ⟨2, ofs _ _ (arches_odd c1), dia_odd (by omega) c1, .inr (.inl ⟨rfl, by omega⟩)⟩
    · obtain ⟨n, hn⟩ : ∃ n, l.length = 2 * n := ⟨l.length / 2, by omega⟩
      have hp : 0 < n := by omega
      by_cases c2 : ∃ y, y < l.length ∧ bad l y
      · obtain ⟨y, a, b⟩ := c2
        refine ⟨2, ofs _ _ (arches_start (by omega) hp hn (arch_bad (by omega) hn (2 * n) 0 [] [] (by omega) (by simp) (by simp) ⟨bo n y, by omega, bo_lt (by omega), by rw [bo_bo (by omega)]; exact b⟩)), dia_even hp (by omega) hn (dia_l0_hit (by omega) l.length 0 (by omega) ⟨y, by omega, a, b⟩), .inr (.inl ⟨rfl, by omega⟩)⟩
      · have hbad : ∀ y, y < l.length → ¬ bad l y := fun y a b => c2 ⟨y, a, b⟩
        have hL := lm_of hn (fun p hp => hbad p (by omega))
        have hr := arches_start (by omega) hp hn (arch_run (by omega) hL (2 * n) 0 [] [] (by omega) (fun y hy => by cases hy) (by simp) (by simp))
        have hD := db_pair hL
        by_cases c3 : NCD (2 * n) (Db n l)
        · have e1 := (run_iff hD).2 c3
          have e2 := rout_nc hD c3 (2 * n) 0 [] (by omega) ⟨trivial, fun z => ⟨fun hz => (by cases hz), fun hz => by omega⟩⟩
          rw [List.isEmpty_iff.2 e1, List.nil_append] at hr
          simp only [List.range_zero, List.map_nil, List.nil_append] at e2
          rw [e2] at hr
          exact ⟨0, ofs _ _ hr, dia_even hp (by omega) hn (dia_l0_miss (by omega) hbad (dia_l1_miss (by omega) hL (crs_nc.1 c3) (2 * n) 0 (by omega)) l.length 0 (by omega)), .inr (.inr ⟨rfl, n, ⟨hp, by omega, hL, c3⟩, hr⟩)⟩
        · rw [List.isEmpty_eq_false_iff.2 (fun e => c3 ((run_iff hD).1 e))] at hr
          have hc : ∃ i, i < 2 * n ∧ ∃ k, k < 2 * n ∧ Crs n l i k := by
            refine Classical.byContradiction fun e => c3 (crs_nc.2 (fun i k hi hk c => e ⟨i, hi, k, hk, c⟩))
          obtain ⟨i, hi, k, hk, c⟩ := hc
          exact ⟨2, ofs _ _ hr, dia_even hp (by omega) hn (dia_l0_miss (by omega) hbad (dia_l1_hit (by omega) hL (2 * n) 0 (by omega) ⟨i, by omega, hi, k, hk, c⟩) l.length 0 (by omega)), .inr (.inl ⟨rfl, by omega⟩)⟩
end Go.Proofs.Ytjfkompfkgjdaaa.L
end
section
/- Product by the program; equal lists are the same. -/
namespace Go.Proofs.Ytjfkompfkgjdaaa.L
open Go.RowKit Go.Proofs.Ytjfkompfkgjdaaa.PC Go.Proofs.YtjfkompfkgjdaaaW.PrintWords Go.Proofs.YtjfkompfkgjdaaaW.PrintLast Go.Proofs.Ytjfkompfkgjdaaa.G
theorem same_l0 {a : List Int} (ha : a.length ≤ 1000000) (d : Nat) : ∀ i, i + d = a.length → Ev (fun k => pomadelaw07_same.l0 k a a (i : Int)) true := by
  induction d with
  | zero =>
    intro i hi
    refine Ev.step (f := fun _ => some true) (fun k => ?_) (Ev.now _)
    simp only [pomadelaw07_same.l0]
    rw [if_neg (by omega)]
  | succ d ih =>
    intro i hi
    refine Ev.step (fun k => ?_) (ih (i + 1) (by omega))
    simp only [pomadelaw07_same.l0]
    rw [if_pos (by omega), if_pos (by omega), if_pos (by omega), if_pos trivial, pw64 (by omega) (by omega)]
    rfl
theorem same_ev {a : List Int} (ha : a.length ≤ 1000000) : Ev (fun k => pomadelaw07_same.f k a a) true :=
  Ev.congr (fun k => by unfold pomadelaw07_same.f; rw [if_pos rfl]; rfl) (same_l0 ha a.length 0 (by omega))
theorem Dia.two {n m : Nat} {a : List Int} (h : Dia n a) (k : Dia m a) : n = m := by
  have h1 := h.lm.len
  have h2 := k.lm.len
  omega
end Go.Proofs.Ytjfkompfkgjdaaa.L
end
section
/- The identity, by the program and by the specification. -/
namespace Go.Proofs.Ytjfkompfkgjdaaa.L
open Go.RowKit Go.Proofs.Ytjfkompfkgjdaaa.PC Go.Proofs.YtjfkompfkgjdaaaW.PrintWords Go.Proofs.YtjfkompfkgjdaaaW.PrintLast Go.Proofs.Ytjfkompfkgjdaaa.G
/-- every point with the one across -/
def idf (n z : Nat) : Nat := if z < n then z + n else z - n
def idL (n : Nat) : List Int := (List.range (2 * n)).map (fun z => (idf n z : Int))
theorem idL_len (n : Nat) : (idL n).length = 2 * n := by simp [idL]
theorem idL_rd {n z : Nat} (h : z < 2 * n) : rd (idL n) (z : Int) = (idf n z : Int) := rd_range _ _ _ h
theorem idf_mat {n : Nat} : Mat n (idf n) := by
  intro z hz
  unfold idf
  by_cases c : z < n
  · rw [if_pos c, if_neg (by omega)]; omega
  · rw [if_neg c, if_pos (by omega)]; omega
theorem lm_of_fun {n : Nat} {l : List Int} {f : Nat → Nat} (hl : l.length = 2 * n) (h : ∀ z : Nat, z < 2 * n → rd l (z : Int) = (f z : Int)) (hf : Mat n f) : LM n l ∧ ∀ z, z < 2 * n → fn l z = f z := by
  have e : ∀ z, z < 2 * n → fn l z = f z := fun z hz => by
    show (rd l (z : Int)).toNat = _
    rw [h z hz, Int.toNat_natCast]
  exact ⟨⟨hl, fun z hz => by rw [h z hz, e z hz], mat_congr e hf⟩, e⟩
theorem idL_lm (n : Nat) : LM n (idL n) := (lm_of_fun (idL_len n) (fun z hz => idL_rd hz) idf_mat).1
theorem identity_l0 {n : Nat} (hn : n ≤ 1000) (d : Nat) : ∀ (j : Nat) (l : List Int), j + d = n → l.length = 2 * n → (∀ i : Nat, i < j → rd l (i : Int) = ((n + i : Nat) : Int) ∧ rd l ((n + i : Nat) : Int) = (i : Int)) → Ev (fun k => plait_identity.l0 k (n : Int) l (n : Int) (j : Int)) (idL n) := by
  induction d with
  | zero =>
    intro j l hj hl hr
    obtain rfl : j = n := by omega
    have e : l = idL j := by
      refine list_eq (by rw [idL_len, hl]) (fun z hz => ?_)
      rw [idL_rd (by omega)]
      unfold idf
      by_cases c : z < j
      · rw [if_pos c, (hr z c).1]; omega
      · rw [if_neg c]
        have := (hr (z - j) (by omega)).2
        rwa [show j + (z - j) = z by omega] at this
    rw [e]
    refine Ev.step (f := fun _ => some (idL j)) (fun k => ?_) (Ev.now _)
    simp only [plait_identity.l0]
    rw [if_neg (by omega)]
  | succ d ih =>
    intro j l hj hl hr
    have lo : n + j < (l.set j ((n + j : Nat) : Int)).length := by simp; omega
    refine Ev.step (fun k => ?_) (ih (j + 1) ((l.set j ((n + j : Nat) : Int)).set (n + j) (j : Int)) (by omega) (by simpa using hl) (fun i hi => ?_))
    · simp only [plait_identity.l0]
      rw [if_pos (by omega), if_pos (by omega), if_pos (by omega), pw64 (x := (n : Int) + (j : Int)) (by omega) (by omega), pw64 (x := (j : Int) + 1) (by omega) (by omega), if_pos (by omega), if_pos (by omega), Int.toNat_natCast, show ((n : Int) + (j : Int)).toNat = n + j by omega]
      rfl
    · rw [rd_set _ _ _ _ lo, rd_set _ _ _ _ (by omega), rd_set _ _ _ _ lo, rd_set _ _ _ _ (by omega)]
      by_cases c : i = j
      · subst c
        rw [if_neg (by omega), if_pos rfl, if_pos rfl]; exact ⟨rfl, rfl⟩
      · rw [if_neg (by omega), if_neg c, if_neg (by omega), if_neg (by omega)]
        exact hr i (by omega)
theorem identity_ev {n : Nat} (hn : n ≤ 1000) : Ev (fun k => plait_identity.f k (n : Int)) (idL n) := by
  refine Ev.congr (fun k => ?_) (identity_l0 hn n 0 (List.replicate (2 * n) 0) (by omega) (by simp) (fun i hi => by omega))
  unfold plait_identity.f
  have e : wrap64 (2 * (n : Int)) = ((2 * n : Nat) : Int) := by rw [pw64 (by omega) (by omega)]; omega
  rw [e, if_pos (by omega), if_pos (by omega), Int.toNat_natCast]
  rfl
theorem refidentity_l0 {n : Nat} (hn : n ≤ 1000) (d : Nat) : ∀ (j : Nat), j + d = 2 * n → Ev (fun k => pomaderef07_Identity.l0 k (n : Int) ((List.range j).map (fun z => (idf n z : Int))) (j : Int)) (idL n) := by
  have e2 : wrap64 (2 * (n : Int)) = ((2 * n : Nat) : Int) := by rw [pw64 (by omega) (by omega)]; omega
  induction d with
  | zero =>
    intro j hj
    obtain rfl : j = 2 * n := by omega
    refine Ev.step (f := fun _ => some (idL n)) (fun k => ?_) (Ev.now _)
    simp only [pomaderef07_Identity.l0]
    rw [e2, if_neg (by omega)]; rfl
  | succ d ih =>
    intro j hj
    refine Ev.step (fun k => ?_) (ih (j + 1) (by omega))
    simp only [pomaderef07_Identity.l0]
    have e3 : Int.tmod ((j : Int) + (n : Int)) ((2 * n : Nat) : Int) = (idf n j : Int) := by
      rw [Int.tmod_eq_emod_of_nonneg (by omega)]
      unfold idf
      by_cases c : j < n
      · rw [if_pos c, Int.emod_eq_of_lt (by omega) (by omega)]; omega
      · rw [if_neg c, show (j : Int) + (n : Int) = ((j - n : Nat) : Int) + ((2 * n : Nat) : Int) * 1 by omega, Int.add_mul_emod_self_left, Int.emod_eq_of_lt (by omega) (by omega)]
    rw [e2, if_pos (by omega), if_neg (by omega), if_pos (by simp; omega), pw64 (x := (j : Int) + (n : Int)) (by omega) (by omega), pw64 (by omega) (by omega), e3, List.range_succ, List.map_append]
    rfl
theorem refidentity_ev {n : Nat} (hn : n ≤ 1000) : Ev (fun k => pomaderef07_Identity.f k (n : Int)) (idL n) := Ev.congr (fun k => rfl) (refidentity_l0 hn (2 * n) 0 (by omega))
end Go.Proofs.Ytjfkompfkgjdaaa.L
end
section
/- Three matchings on top of one another; other names: plain. -/
namespace Go.Proofs.Ytjfkompfkgjdaaa.G
theorem prs_map (F f g : Nat → Nat) (k : Nat) : (prs f g k).map (fun p => (F p.1, F p.2)) = prs (fun i => F (f i)) (fun i => F (g i)) k := by
  induction k with
  | zero => rfl
  | succ k ih => simp only [prs, List.map_cons, ih]
theorem prs_congr {f g f' g' : Nat → Nat} (k : Nat) (h : ∀ i, i < k → f i = f' i ∧ g i = g' i) : prs f g k = prs f' g' k := by
  induction k with
  | zero => rfl
  | succ k ih =>
    have := h k (by omega)
    simp only [prs, ih (fun i hi => h i (by omega)), this.1, this.2]
theorem prs_mem {f g : Nat → Nat} {k : Nat} {p : Nat × Nat} (h : p ∈ prs f g k) : ∃ i, i < k ∧ p = (f i, g i) := by
  induction k with
  | zero => cases h
  | succ k ih =>
    rcases List.mem_cons.1 h with rfl | h
    · exact ⟨k, by omega, rfl⟩
    · obtain ⟨i, a, b⟩ := ih h; exact ⟨i, by omega, b⟩
theorem prs_flip {f g : Nat → Nat} (k : Nat) : ∀ σ : Nat → Nat, Inv2 σ → OK σ (prs f g k) → glue (prs g f k) σ = glue (prs f g k) σ := by
  induction k with
  | zero => intro σ _ _; rfl
  | succ k ih =>
    intro σ hi h
    obtain ⟨h0, h1, h2, h3, h4, h5⟩ := h
    have e := con_swap (f k) (g k) hi h0
    simp only [prs, glue]
    rw [← e.1, ← e.2, ih _ (con_inv hi h1 h2 h0) (h5.con hi h0 h3 h4)]
theorem OK.app {σ : Nat → Nat} {l l' : List (Nat × Nat)} (h : OK σ l) (h' : OK σ l') (hd : ∀ z, pts l z → ¬ pts l' z) : OK σ (l ++ l') := by
  induction l with
  | nil => exact h'
  | cons p l ih =>
    obtain ⟨x, y⟩ := p
    obtain ⟨h0, h1, h2, h3, h4, h5⟩ := h
    have pa : ∀ z, pts (l ++ l') z → pts l z ∨ pts l' z := fun z ⟨p, m, e⟩ => (List.mem_append.1 m).elim (fun m => .inl ⟨p, m, e⟩) (fun m => .inr ⟨p, m, e⟩)
    refine ⟨h0, h1, h2, fun q => ?_, fun q => ?_, ih h5 (fun z hz => hd z ((pts_cons _ _ _ _).2 (.inr (.inr hz))))⟩
    · exact (pa _ q).elim h3 (hd x ((pts_cons _ _ _ _).2 (.inl rfl)))
    · exact (pa _ q).elim h4 (hd y ((pts_cons _ _ _ _).2 (.inr (.inl rfl))))
theorem glue_ok (l l' : List (Nat × Nat)) : ∀ σ : Nat → Nat, Inv2 σ → OK σ (l ++ l') → OK (glue l σ).1 l' := by
  induction l with
  | nil => intro σ _ h; exact h
  | cons p l ih =>
    obtain ⟨x, y⟩ := p
    intro σ hi h
    obtain ⟨h0, h1, h2, h3, h4, h5⟩ := h
    exact ih _ (con_inv hi h1 h2 h0) (OK.con hi h0 h3 h4 h5)
/-- a product inside of something greater -/
theorem glue_sub {n : Nat} {a b F σ : Nat → Nat} (ha : Mat n a) (hb : Mat n b) (hF : ∀ u v, u < 4 * n → v < 4 * n → F u = F v → u = v) (h : Emb (4 * n) F (jn n a b) σ) {p : Nat} (hp : p < 2 * n) :
    (glue (prs (fun i => F (n + i)) (fun i => F (2 * n + i)) n) σ).1 (F (emb n p)) = F (emb n (prod n a b p)) := by
  have g := glue_emb hF (mids n) h (fun p hp => by obtain ⟨i, hi, rfl⟩ := prs_mem hp; simp only [up, dn]; omega)
  have e : (mids n).map (fun p => (F p.1, F p.2)) = prs (fun i => F (n + i)) (fun i => F (2 * n + i)) n := prs_map _ _ _ _
  rw [e] at g
  have := (g.1 (emb n p) (emb_out hp).2).2
  rw [this, (prod_emb ha hb hp).1]
theorem glue_sub2 {n : Nat} {a b F σ : Nat → Nat} (hF : ∀ u v, u < 4 * n → v < 4 * n → F u = F v → u = v) (h : Emb (4 * n) F (jn n a b) σ) :
    (glue (prs (fun i => F (n + i)) (fun i => F (2 * n + i)) n) σ).2 = lops n a b := by
  have g := glue_emb hF (mids n) h (fun p hp => by obtain ⟨i, hi, rfl⟩ := prs_mem hp; simp only [up, dn]; omega)
  have e : (mids n).map (fun p => (F p.1, F p.2)) = prs (fun i => F (n + i)) (fun i => F (2 * n + i)) n := prs_map _ _ _ _
  rw [e] at g
  exact g.2
/-! ### three on top of one another -/
def j3 (n : Nat) (a b c : Nat → Nat) (z : Nat) : Nat := if z < 2 * n then a z else if z < 4 * n then 2 * n + b (z - 2 * n) else if z < 6 * n then 4 * n + c (z - 4 * n) else z
theorem j3_a {n : Nat} {a b c : Nat → Nat} {z : Nat} (h : z < 2 * n) : j3 n a b c z = a z := by unfold j3; rw [if_pos h]
theorem j3_b {n : Nat} {a b c : Nat → Nat} {z : Nat} (h : z < 2 * n) : j3 n a b c (2 * n + z) = 2 * n + b z := by unfold j3; rw [if_neg (by omega), if_pos (by omega), Nat.add_sub_cancel_left]
theorem j3_c {n : Nat} {a b c : Nat → Nat} {z : Nat} (h : z < 2 * n) : j3 n a b c (4 * n + z) = 4 * n + c z := by unfold j3; rw [if_neg (by omega), if_neg (by omega), if_pos (by omega), Nat.add_sub_cancel_left]
theorem j3_off {n : Nat} {a b c : Nat → Nat} {z : Nat} (h : 6 * n ≤ z) : j3 n a b c z = z := by unfold j3; rw [if_neg (by omega), if_neg (by omega), if_neg (by omega)]
theorem j3_cases {n : Nat} (z : Nat) : z < 2 * n ∨ (∃ y, y < 2 * n ∧ z = 2 * n + y) ∨ (∃ y, y < 2 * n ∧ z = 4 * n + y) ∨ 6 * n ≤ z := by
  by_cases c1 : z < 2 * n
  · exact .inl c1
  · by_cases c2 : z < 4 * n
    · exact .inr (.inl ⟨z - 2 * n, by omega, by omega⟩)
    · by_cases c3 : z < 6 * n
      · exact .inr (.inr (.inl ⟨z - 4 * n, by omega, by omega⟩))
      · exact .inr (.inr (.inr (by omega)))
theorem j3_inv {n : Nat} {a b c : Nat → Nat} (ha : Mat n a) (hb : Mat n b) (hc : Mat n c) : Inv2 (j3 n a b c) := by
  intro z
  rcases @j3_cases n z with h | ⟨y, h, rfl⟩ | ⟨y, h, rfl⟩ | h
  · rw [j3_a h, j3_a (ha z h).1, (ha z h).2.2]
  · rw [j3_b h, j3_b (hb y h).1, (hb y h).2.2]
  · rw [j3_c h, j3_c (hc y h).1, (hc y h).2.2]
  · rw [j3_off h, j3_off h]
theorem j3_alive {n : Nat} {a b c : Nat → Nat} (ha : Mat n a) (hb : Mat n b) (hc : Mat n c) {z : Nat} (hz : z < 6 * n) : j3 n a b c z ≠ z := by
  rcases @j3_cases n z with h | ⟨y, h, rfl⟩ | ⟨y, h, rfl⟩ | h
  · rw [j3_a h]; exact (ha z h).2.1
  · rw [j3_b h]; intro e; exact (hb y h).2.1 (by omega)
  · rw [j3_c h]; intro e; exact (hc y h).2.1 (by omega)
  · omega
theorem assoc {n : Nat} {a b c : Nat → Nat} (ha : Mat n a) (hb : Mat n b) (hc : Mat n c) :
    (∀ p, p < 2 * n → prod n (prod n a b) c p = prod n a (prod n b c) p) ∧ lops n (prod n a b) c + lops n a b = lops n a (prod n b c) + lops n b c := by
  have hab := prod_mat ha hb
  have hbc := prod_mat hb hc
  have hi := j3_inv ha hb hc
  let P := prs (fun i => n + i) (fun i => 2 * n + i) n
  let Q := prs (fun i => 3 * n + i) (fun i => 4 * n + i) n
  have okP : OK (j3 n a b c) P := prs_ok n (fun i j _ _ => by omega) (fun i hi => ⟨j3_alive ha hb hc (by omega), j3_alive ha hb hc (by omega)⟩)
  have okQ : OK (j3 n a b c) Q := prs_ok n (fun i j _ _ => by omega) (fun i hi => ⟨j3_alive ha hb hc (by omega), j3_alive ha hb hc (by omega)⟩)
  have ptP : ∀ z, pts P z → n ≤ z ∧ z < 3 * n := fun z h => by obtain ⟨i, a, b⟩ := (pts_prs _ _ _ _).1 h; omega
  have ptQ : ∀ z, pts Q z → 3 * n ≤ z ∧ z < 5 * n := fun z h => by obtain ⟨i, a, b⟩ := (pts_prs _ _ _ _).1 h; omega
  have okPQ : OK (j3 n a b c) (P ++ Q) := okP.app okQ (fun z h1 h2 => by have := ptP z h1; have := ptQ z h2; omega)
  obtain ⟨same, okQP⟩ := glue_perm (List.perm_append_comm (l₁ := P) (l₂ := Q)) _ hi okPQ
  rw [glue_app, glue_app] at same
  -- first the upper two
  have eP : Emb (4 * n) (fun z => z) (jn n a b) (j3 n a b c) := fun z hz => ⟨jn_lt ha hb hz, by
    rcases @jn_cases n z with h | ⟨y, h, rfl⟩ | h
    · show j3 n a b c z = jn n a b z
      rw [j3_a h, jn_lo h]
    · show j3 n a b c (2 * n + y) = jn n a b (2 * n + y)
      rw [j3_b h, jn_hi h]
    · omega⟩
  have p1 : ∀ p, p < 2 * n → (glue P (j3 n a b c)).1 (emb n p) = emb n (prod n a b p) := fun p hp => glue_sub (F := fun z => z) ha hb (fun u v _ _ e => e) eP hp
  have p2 : (glue P (j3 n a b c)).2 = lops n a b := glue_sub2 (F := fun z => z) (fun u v _ _ e => e) eP
  have p3 : ∀ y, y < 2 * n → (glue P (j3 n a b c)).1 (4 * n + y) = 4 * n + c y := fun y hy => by
    rw [glue_off (fun z => 4 * n ≤ z ∧ z < 6 * n) P (fun z hz => ?_) hi okP (fun p hp => ?_) (4 * n + y) (by omega), j3_c hy]
    · obtain ⟨x, rfl⟩ : ∃ x, z = 4 * n + x := ⟨z - 4 * n, by omega⟩
      rw [j3_c (by omega)]
      have := (hc x (by omega)).1
      omega
    · obtain ⟨i, h, rfl⟩ := prs_mem hp
      dsimp only
      omega
  let F : Nat → Nat := fun z => if z < 2 * n then emb n z else 2 * n + z
  have hF : ∀ u v, u < 4 * n → v < 4 * n → F u = F v → u = v := by
    intro u v hu hv e
    simp only [F, emb] at e
    split at e <;> split at e <;> (try split at e) <;> (try split at e) <;> omega
  have eF : Emb (4 * n) F (jn n (prod n a b) c) (glue P (j3 n a b c)).1 := fun z hz => ⟨jn_lt hab hc hz, by
    rcases @jn_cases n z with h | ⟨y, h, rfl⟩ | h
    · have := (hab z h).1
      simp only [F]
      rw [jn_lo h, if_pos h, if_pos this]
      exact p1 z h
    · simp only [F]
      rw [jn_hi h, if_neg (by omega), if_neg (by omega), show 2 * n + (2 * n + y) = 4 * n + y by omega, p3 y h]
      omega
    · omega⟩
  have qF : prs (fun i => F (n + i)) (fun i => F (2 * n + i)) n = Q := prs_congr n (fun i hi => by
    simp only [F, emb]
    rw [if_pos (by omega), if_neg (by omega), if_neg (by omega)]
    omega)
  have f1 : ∀ p, p < 2 * n → (glue Q (glue P (j3 n a b c)).1).1 (F (emb n p)) = F (emb n (prod n (prod n a b) c p)) := fun p hp => by
    rw [← qF]; exact glue_sub hab hc hF eF hp
  have f2 : (glue Q (glue P (j3 n a b c)).1).2 = lops n (prod n a b) c := by
    rw [← qF]; exact glue_sub2 hF eF
  -- first the lower two
  let G : Nat → Nat := fun z => 2 * n + z
  have eQ : Emb (4 * n) G (jn n b c) (j3 n a b c) := fun z hz => ⟨jn_lt hb hc hz, by
    rcases @jn_cases n z with h | ⟨y, h, rfl⟩ | h
    · simp only [G]; rw [j3_b h, jn_lo h]
    · simp only [G]; rw [show 2 * n + (2 * n + y) = 4 * n + y by omega, j3_c h, jn_hi h]; omega
    · omega⟩
  have gQ : prs (fun i => G (n + i)) (fun i => G (2 * n + i)) n = Q := prs_congr n (fun i hi => by simp only [G]; omega)
  have hG : ∀ u v, u < 4 * n → v < 4 * n → G u = G v → u = v := fun u v _ _ e => by simp only [G] at e; omega
  have q1 : ∀ p, p < 2 * n → (glue Q (j3 n a b c)).1 (2 * n + emb n p) = 2 * n + emb n (prod n b c p) := fun p hp => by
    rw [← gQ]; exact glue_sub hb hc hG eQ hp
  have q2 : (glue Q (j3 n a b c)).2 = lops n b c := by rw [← gQ]; exact glue_sub2 hG eQ
  have q3 : ∀ y, y < 2 * n → (glue Q (j3 n a b c)).1 y = a y := fun y hy => by
    rw [glue_off (fun z => z < 2 * n) Q (fun z hz => ?_) hi okQ (fun p hp => ?_) y hy, j3_a hy]
    · rw [j3_a hz]; exact (ha z hz).1
    · obtain ⟨i, h, rfl⟩ := prs_mem hp
      dsimp only
      omega
  let H : Nat → Nat := fun z => if z < 2 * n then z else 2 * n + emb n (z - 2 * n)
  have hH : ∀ u v, u < 4 * n → v < 4 * n → H u = H v → u = v := by
    intro u v hu hv e
    simp only [H, emb] at e
    split at e <;> split at e <;> (try split at e) <;> (try split at e) <;> omega
  have eH : Emb (4 * n) H (jn n a (prod n b c)) (glue Q (j3 n a b c)).1 := fun z hz => ⟨jn_lt ha hbc hz, by
    rcases @jn_cases n z with h | ⟨y, h, rfl⟩ | h
    · have := (ha z h).1
      simp only [H]
      rw [jn_lo h, if_pos h, if_pos this]
      exact q3 z h
    · have := (hbc y h).1
      simp only [H]
      rw [jn_hi h, if_neg (by omega), if_neg (by omega), Nat.add_sub_cancel_left, Nat.add_sub_cancel_left]
      exact q1 y h
    · omega⟩
  have pH : prs (fun i => H (n + i)) (fun i => H (2 * n + i)) n = P := prs_congr n (fun i hi => by
    simp only [H, emb]
    rw [if_pos (by omega), if_neg (by omega), Nat.add_sub_cancel_left, if_pos hi]
    exact ⟨rfl, rfl⟩)
  have h1 : ∀ p, p < 2 * n → (glue P (glue Q (j3 n a b c)).1).1 (H (emb n p)) = H (emb n (prod n a (prod n b c) p)) := fun p hp => by
    rw [← pH]; exact glue_sub ha hbc hH eH hp
  have h2 : (glue P (glue Q (j3 n a b c)).1).2 = lops n a (prod n b c) := by
    rw [← pH]; exact glue_sub2 hH eH
  have FH : ∀ p, p < 2 * n → F (emb n p) = H (emb n p) ∧ emb n p < 4 * n := by
    intro p hp
    simp only [F, H, emb]
    by_cases c1 : p < n
    · rw [if_pos c1, if_pos (by omega), if_pos c1, if_pos (by omega)]; omega
    · rw [if_neg c1, if_neg (by omega), if_neg (by omega), if_neg (by omega)]; omega
  constructor
  · intro p hp
    have s1 := congrArg Prod.fst same
    dsimp only at s1
    have e := f1 p hp
    rw [s1, (FH p hp).1, h1 p hp] at e
    have m1 := (prod_mat ha hbc p hp).1
    have m2 := (prod_mat hab hc p hp).1
    rw [← (FH _ m1).1] at e
    have := hF _ _ (FH _ m1).2 (FH _ m2).2 e
    have := congrArg (une n) this
    rw [une_emb, une_emb] at this
    exact this.symm
  · have s2 := congrArg Prod.snd same
    dsimp only at s2
    rw [f2, p2, h2, q2] at s2
    exact s2
end Go.Proofs.Ytjfkompfkgjdaaa.G
end
section
/- The identity in products; a product of matchings without crossings has none: plain. -/
namespace Go.Proofs.Ytjfkompfkgjdaaa.G
/-! ### the identity -/
def idf (n z : Nat) : Nat := if z < n then z + n else z - n
theorem idf_mat {n : Nat} : Mat n (idf n) := by
  intro z hz
  unfold idf
  by_cases c : z < n
  · rw [if_pos c, if_neg (by omega)]; omega
  · rw [if_neg c, if_pos (by omega)]; omega
theorem idf_lo {n z : Nat} (h : z < n) : idf n z = n + z := by unfold idf; rw [if_pos h]; omega
theorem idf_hi {n z : Nat} : idf n (n + z) = z := by unfold idf; rw [if_neg (by omega)]; omega
theorem prod_id {n : Nat} {a : Nat → Nat} (ha : Mat n a) {p : Nat} (hp : p < 2 * n) : prod n a (idf n) p = a p := by
  have hi := @idf_mat n
  have out : ∀ z, z < n ∨ 3 * n ≤ z → ¬ pts (mids n) z := fun z h e => by have := mids_pts.1 e; omega
  have inn : ∀ z, n ≤ z → z < 3 * n → pts (mids n) z := fun z h1 h2 => mids_pts.2 ⟨h1, h2⟩
  -- from a point of the upper one
  have low : ∀ z, z < 2 * n → ∃ q, Path (jn n a (idf n)) (mids n) z q ∧ une n q = a z := by
    intro z hz
    have h1 := (ha z hz).1
    have e : jn n a (idf n) z = a z := jn_lo hz
    by_cases c : a z < n
    · exact ⟨a z, e ▸ .out z (by rw [e]; exact out _ (.inl c)), by unfold une; rw [if_pos c]⟩
    · obtain ⟨m, hm⟩ : ∃ m, a z = n + m := ⟨a z - n, by omega⟩
      have e2 : jn n a (idf n) (2 * n + m) = 3 * n + m := by rw [jn_hi (by omega), idf_lo (by omega)]; omega
      refine ⟨3 * n + m, .via z _ (by rw [e]; exact inn _ (by omega) (by omega)) ?_, by unfold une; rw [if_neg (by omega)]; omega⟩
      rw [e, hm, (tau_up ha hi (by omega)).1, ← e2]
      exact .out _ (by rw [e2]; exact out _ (.inr (by omega)))
  by_cases c : p < n
  · obtain ⟨q, h1, h2⟩ := low p hp
    rw [← prod_path ha hi hp (by unfold emb; rw [if_pos c]; exact h1), h2]
  · obtain ⟨m, rfl⟩ : ∃ m, p = n + m := ⟨p - n, by omega⟩
    obtain ⟨q, h1, h2⟩ := low (n + m) hp
    have e : jn n a (idf n) (2 * n + (n + m)) = 2 * n + m := by rw [jn_hi (by omega), idf_hi]
    have h3 : Path (jn n a (idf n)) (mids n) (emb n (n + m)) q := by
      have : emb n (n + m) = 2 * n + (n + m) := by unfold emb; rw [if_neg (by omega)]; omega
      rw [this]
      refine .via _ _ (by rw [e]; exact inn _ (by omega) (by omega)) ?_
      rw [e, (tau_up ha hi (by omega)).2]
      exact h1
    rw [← prod_path ha hi hp h3, h2]
theorem id_prod {n : Nat} {a : Nat → Nat} (ha : Mat n a) {p : Nat} (hp : p < 2 * n) : prod n (idf n) a p = a p := by
  have hi := @idf_mat n
  have out : ∀ z, z < n ∨ 3 * n ≤ z → ¬ pts (mids n) z := fun z h e => by have := mids_pts.1 e; omega
  have inn : ∀ z, n ≤ z → z < 3 * n → pts (mids n) z := fun z h1 h2 => mids_pts.2 ⟨h1, h2⟩
  have low : ∀ z, z < 2 * n → ∃ q, Path (jn n (idf n) a) (mids n) (2 * n + z) q ∧ une n q = a z := by
    intro z hz
    have h1 := (ha z hz).1
    have e : jn n (idf n) a (2 * n + z) = 2 * n + a z := jn_hi hz
    by_cases c : a z < n
    · have e2 : jn n (idf n) a (n + a z) = a z := by rw [jn_lo (by omega), idf_hi]
      refine ⟨a z, .via _ _ (by rw [e]; exact inn _ (by omega) (by omega)) ?_, by unfold une; rw [if_pos c]⟩
      rw [e, (tau_up hi ha c).2]
      have := Path.out (σ := jn n (idf n) a) (l := mids n) (n + a z) (by rw [e2]; exact out _ (.inl c))
      rwa [e2] at this
    · have := Path.out (σ := jn n (idf n) a) (l := mids n) (2 * n + z) (by rw [e]; exact out _ (.inr (by omega)))
      rw [e] at this
      exact ⟨_, this, by unfold une; rw [if_neg (by omega)]; omega⟩
  by_cases c : p < n
  · obtain ⟨q, h1, h2⟩ := low p hp
    have e : jn n (idf n) a p = n + p := by rw [jn_lo (by omega), idf_lo c]
    have h3 : Path (jn n (idf n) a) (mids n) (emb n p) q := by
      have : emb n p = p := by unfold emb; rw [if_pos c]
      rw [this]
      refine .via _ _ (by rw [e]; exact inn _ (by omega) (by omega)) ?_
      rw [e, (tau_up hi ha c).1]
      exact h1
    rw [← prod_path hi ha hp h3, h2]
  · obtain ⟨q, h1, h2⟩ := low p hp
    rw [← prod_path hi ha hp (by unfold emb; rw [if_neg c, Nat.add_comm]; exact h1), h2]
theorem cntP_none {P : Nat → Prop} (k : Nat) (h : ∀ i, i < k → ¬ P i) : cntP P k = 0 := by
  induction k with
  | zero => rfl
  | succ k ih => simp only [cntP]; rw [ih (fun i hi => h i (by omega)), if_neg (h k (by omega))]
theorem lops_id {n : Nat} {a : Nat → Nat} (ha : Mat n a) : lops n a (idf n) = 0 ∧ lops n (idf n) a = 0 := by
  have hi := @idf_mat n
  constructor
  · rw [lops_fst ha hi]
    refine cntP_none n (fun m hm h => ?_)
    have := h.1.2 (3 * n + m) ?_
    · have := mids_pts.1 this; omega
    · have c := Conn.s _ (Conn.t (σ := jn n a (idf n)) (τ := tau (mids n)) (x := n + m) _ .refl)
      rw [(tau_up ha hi hm).1, jn_hi (by omega), idf_lo hm] at c
      rwa [show 3 * n + m = 2 * n + (n + m) by omega]
  · rw [lops_fst hi ha]
    refine cntP_none n (fun m hm h => ?_)
    have := h.1.2 m ?_
    · have := mids_pts.1 this; omega
    · have c := Conn.s (σ := jn n (idf n) a) (τ := tau (mids n)) (x := n + m) _ .refl
      rwa [jn_lo (by omega), idf_hi] at c
/-! ### a product of diagrams without crossings has none -/
def bo (n i : Nat) : Nat := if i < n then i else 3 * n - 1 - i
def NCf (n : Nat) (a : Nat → Nat) : Prop := ∀ i k, i < 2 * n → k < 2 * n → ¬ (bo n i < bo n k ∧ bo n k < bo n (a i) ∧ bo n (a i) < bo n (a k))
def pos4 (n z : Nat) : Nat := if z < n then z else if z < 2 * n then 3 * n - 1 - z else if z < 3 * n then z else 7 * n - 1 - z
theorem crs_of (ps : Nat → Nat) (u v p q : Nat) (h1 : ¬ (ps u < ps p ∧ ps p < ps v ∧ ps v < ps q)) (h2 : ¬ (ps u < ps q ∧ ps q < ps v ∧ ps v < ps p)) (h3 : ¬ (ps v < ps p ∧ ps p < ps u ∧ ps u < ps q)) (h4 : ¬ (ps v < ps q ∧ ps q < ps u ∧ ps u < ps p))
    (h5 : ¬ (ps p < ps u ∧ ps u < ps q ∧ ps q < ps v)) (h6 : ¬ (ps p < ps v ∧ ps v < ps q ∧ ps q < ps u)) (h7 : ¬ (ps q < ps u ∧ ps u < ps p ∧ ps p < ps v)) (h8 : ¬ (ps q < ps v ∧ ps v < ps p ∧ ps p < ps u))
    (n1 : ps u ≠ ps p) (n2 : ps u ≠ ps q) (n3 : ps v ≠ ps p) (n4 : ps v ≠ ps q) : crs ps u v p q = false := by
  unfold crs
  by_cases c1 : ps p < ps u <;> by_cases c2 : ps q < ps u <;> by_cases c3 : ps p < ps v <;> by_cases c4 : ps q < ps v <;> simp only [c1, c2, c3, c4, decide_true, decide_false] <;> first | rfl | (exfalso; omega)
theorem of_crs (ps : Nat → Nat) (u v p q : Nat) (h : crs ps u v p q = false) : ¬ (ps u < ps p ∧ ps p < ps v ∧ ps v < ps q) := by
  intro ⟨a, b, c⟩
  unfold crs at h
  rw [decide_eq_false (by omega), decide_eq_false (by omega), decide_eq_true b, decide_eq_false (by omega)] at h
  exact absurd h (by decide)
theorem pos4_inj {n u v : Nat} (hu : u < 4 * n) (hv : v < 4 * n) (h : pos4 n u = pos4 n v) : u = v := by
  unfold pos4 at h
  split at h <;> split at h <;> (try split at h) <;> (try split at h) <;> (try split at h) <;> (try split at h) <;> omega
theorem pos4_lo {n z : Nat} (h : z < 2 * n) : pos4 n z = bo n z ∧ pos4 n z < 2 * n := by
  unfold pos4 bo
  by_cases c : z < n
  · rw [if_pos c, if_pos c]; omega
  · rw [if_neg c, if_neg c, if_pos h]; omega
theorem pos4_hi {n z : Nat} (h : z < 2 * n) : pos4 n (2 * n + z) = 2 * n + bo n z := by
  unfold pos4 bo
  by_cases c : z < n
  · rw [if_neg (by omega), if_neg (by omega), if_pos (by omega), if_pos c]
  · rw [if_neg (by omega), if_neg (by omega), if_neg (by omega), if_neg c]; omega
theorem jn_nc {n : Nat} {a b : Nat → Nat} (ha : Mat n a) (hb : Mat n b) (na : NCf n a) (nb : NCf n b) : NC (pos4 n) (jn n a b) := by
  have hi := jn_inv ha hb
  intro u p hu hp pu pv
  have hu4 := (jn_alive ha hb).1 hu
  have hp4 := (jn_alive ha hb).1 hp
  have hv4 := jn_lt ha hb hu4
  have hq4 := jn_lt ha hb hp4
  have n1 : pos4 n u ≠ pos4 n p := fun e => pu (pos4_inj hu4 hp4 e).symm
  have n2 : pos4 n u ≠ pos4 n (jn n a b p) := fun e => pv (by have := pos4_inj hu4 hq4 e; rw [this, hi p])
  have n3 : pos4 n (jn n a b u) ≠ pos4 n p := fun e => pv (pos4_inj hv4 hp4 e).symm
  have n4 : pos4 n (jn n a b u) ≠ pos4 n (jn n a b p) := fun e => pu (hi.inj (pos4_inj hv4 hq4 e)).symm
  rcases @jn_cases n u with cu | ⟨y, cu, rfl⟩ | cu
  · rcases @jn_cases n p with cp | ⟨x, cp, rfl⟩ | cp
    · have h1 := ha u cu
      have h2 := ha p cp
      rw [jn_lo cu] at n3 n4 ⊢
      rw [jn_lo cp] at n2 n4 ⊢
      have m1 := na u p cu cp
      have m2 := na u (a p) cu h2.1
      have m3 := na (a u) p h1.1 cp
      have m4 := na (a u) (a p) h1.1 h2.1
      have m5 := na p u cp cu
      have m6 := na p (a u) cp h1.1
      have m7 := na (a p) u h2.1 cu
      have m8 := na (a p) (a u) h2.1 h1.1
      rw [h2.2.2] at m2 m4 m7 m8
      rw [h1.2.2] at m3 m4 m6 m8
      rw [← (pos4_lo cu).1, ← (pos4_lo cp).1, ← (pos4_lo h1.1).1, ← (pos4_lo h2.1).1] at m1 m2 m3 m4 m5 m6 m7 m8
      exact crs_of _ _ _ _ _ m1 m2 m3 m4 m5 m6 m7 m8 n1 n2 n3 n4
    · have h1 := ha u cu
      have h2 := hb x cp
      rw [jn_lo cu] at n3 n4 ⊢
      rw [jn_hi cp] at n2 n4 ⊢
      have k1 := (pos4_lo cu).2
      have k2 := (pos4_lo h1.1).2
      have k3 := pos4_hi cp
      have k4 := pos4_hi h2.1
      apply crs_of <;> omega
    · omega
  · rcases @jn_cases n p with cp | ⟨x, cp, rfl⟩ | cp
    · have h1 := hb y cu
      have h2 := ha p cp
      rw [jn_hi cu] at n3 n4 ⊢
      rw [jn_lo cp] at n2 n4 ⊢
      have k1 := (pos4_lo cp).2
      have k2 := (pos4_lo h2.1).2
      have k3 := pos4_hi cu
      have k4 := pos4_hi h1.1
      apply crs_of <;> omega
    · have h1 := hb y cu
      have h2 := hb x cp
      rw [jn_hi cu] at n3 n4 ⊢
      rw [jn_hi cp] at n2 n4 ⊢
      have m1 := nb y x cu cp
      have m2 := nb y (b x) cu h2.1
      have m3 := nb (b y) x h1.1 cp
      have m4 := nb (b y) (b x) h1.1 h2.1
      have m5 := nb x y cp cu
      have m6 := nb x (b y) cp h1.1
      have m7 := nb (b x) y h2.1 cu
      have m8 := nb (b x) (b y) h2.1 h1.1
      rw [h2.2.2] at m2 m4 m7 m8
      rw [h1.2.2] at m3 m4 m6 m8
      have k1 := pos4_hi cu
      have k2 := pos4_hi cp
      have k3 := pos4_hi h1.1
      have k4 := pos4_hi h2.1
      apply crs_of <;> omega
    · omega
  · omega
/-- the pairs from index m on, rising -/
def prsA (f g : Nat → Nat) : Nat → Nat → List (Nat × Nat)
  | _, 0 => []
  | m, k + 1 => (f m, g m) :: prsA f g (m + 1) k
theorem prsA_perm (f g : Nat → Nat) (k : Nat) : ∀ m, (prs f g (m + k)).Perm (prsA f g m k ++ prs f g m) := by
  induction k with
  | zero => intro m; exact .refl _
  | succ k ih =>
    intro m
    have := ih (m + 1)
    rw [show m + (k + 1) = (m + 1) + k by omega]
    refine this.trans ?_
    simp only [prs, prsA, List.cons_append]
    exact List.perm_middle
theorem mids_adj {n : Nat} (k : Nat) : ∀ (m : Nat) (σ : Nat → Nat), m + k = n → Inv2 σ → OK σ (prsA (up n) (dn n) m k) → (∀ z, σ z ≠ z → z < 4 * n ∧ ∀ j, j < m → z ≠ n + j ∧ z ≠ 2 * n + j) → Adjs (pos4 n) (prsA (up n) (dn n) m k) σ := by
  induction k with
  | zero => intro m σ _ _ _ _; trivial
  | succ k ih =>
    intro m σ hm hi h hz
    have h' := h
    obtain ⟨h0, h1, h2, h3, h4, h5⟩ := h'
    refine ⟨fun z az zx zy => ?_, ih (m + 1) _ (by omega) (con_inv hi h1 h2 h0) (h5.con hi h0 h3 h4) (fun z az => ?_)⟩
    · have a := hz z az
      have a1 : ∀ j, z = n + j → m < j := fun j e => by
        refine Classical.byContradiction fun q => ?_
        by_cases c : j = m
        · subst c; exact zx e
        · exact (a.2 j (by omega)).1 e
      have a2 : ∀ j, z = 2 * n + j → m < j := fun j e => by
        refine Classical.byContradiction fun q => ?_
        by_cases c : j = m
        · subst c; exact zy e
        · exact (a.2 j (by omega)).2 e
      have e1 : pos4 n (up n m) = 2 * n - 1 - m := by unfold pos4 up; rw [if_neg (by omega), if_pos (by omega)]; omega
      have e2 : pos4 n (dn n m) = 2 * n + m := by unfold pos4 dn; rw [if_neg (by omega), if_neg (by omega), if_pos (by omega)]
      rw [e1, e2]
      unfold pos4
      by_cases c1 : z < n
      · rw [if_pos c1]; omega
      · rw [if_neg c1]
        by_cases c2 : z < 2 * n
        · rw [if_pos c2]
          have := a1 (z - n) (by omega)
          omega
        · rw [if_neg c2]
          by_cases c3 : z < 3 * n
          · rw [if_pos c3]
            have := a2 (z - 2 * n) (by omega)
            omega
          · rw [if_neg c3]; omega
    · have n1 : σ z ≠ z := fun e => az (con_dead hi h1 h2 e)
      have n2 : ¬ (z = up n m ∨ z = dn n m) := fun e => az (con_dead2 e)
      have a := hz z n1
      refine ⟨a.1, fun j hj => ?_⟩
      by_cases c : j = m
      · subst c; exact ⟨fun e => n2 (.inl e), fun e => n2 (.inr e)⟩
      · exact a.2 j (by omega)
theorem prod_nc {n : Nat} {a b : Nat → Nat} (ha : Mat n a) (hb : Mat n b) (na : NCf n a) (nb : NCf n b) : NCf n (prod n a b) := by
  have hi := jn_inv ha hb
  have ho := mids_ok ha hb
  have pm : (mids n).Perm (prsA (up n) (dn n) 0 n) := by
    have := prsA_perm (up n) (dn n) n 0
    rw [Nat.zero_add] at this
    unfold mids
    simpa [prs] using this
  obtain ⟨same, okA⟩ := glue_perm pm _ hi ho
  have nc := glue_nc _ hi okA (fun u v hu hv e => pos4_inj ((jn_alive ha hb).1 hu) ((jn_alive ha hb).1 hv) e) (jn_nc ha hb na nb)
    (mids_adj n 0 _ (by omega) hi okA (fun z hz => ⟨(jn_alive ha hb).1 hz, fun j hj => by omega⟩))
  rw [← same] at nc
  intro i k hik hk c
  have hp := prod_mat ha hb
  have e1 := prod_emb ha hb hik
  have e2 := prod_emb ha hb hk
  have ai := glue_alive _ _ hi ho _ (emb_out hik).1 ((jn_alive ha hb).2 (emb_out hik).2)
  have ak := glue_alive _ _ hi ho _ (emb_out hk).1 ((jn_alive ha hb).2 (emb_out hk).2)
  have inj : ∀ x y, emb n x = emb n y → x = y := fun x y e => by have := congrArg (une n) e; rwa [une_emb, une_emb] at this
  have ne1 : emb n k ≠ emb n i := fun e => by have := inj _ _ e; subst this; omega
  have ne2 : emb n k ≠ (glue (mids n) (jn n a b)).1 (emb n i) := fun e => by
    rw [← e1.1] at e
    have e := inj _ _ e
    subst e
    rw [(hp i hik).2.2] at c
    omega
  have h := of_crs _ _ _ _ _ (nc (emb n i) (emb n k) ai ak ne1 ne2)
  rw [← e1.1, ← e2.1] at h
  have ord : ∀ x y, x < 2 * n → y < 2 * n → bo n x < bo n y → pos4 n (emb n x) < pos4 n (emb n y) := by
    intro x y hx hy hxy
    have v : ∀ z, z < 2 * n → pos4 n (emb n z) = if z < n then bo n z else 2 * n + bo n z := by
      intro z hz
      unfold emb
      by_cases d : z < n
      · rw [if_pos d, if_pos d, (pos4_lo hz).1]
      · rw [if_neg d, if_neg d, Nat.add_comm, pos4_hi hz]
    rw [v x hx, v y hy]
    unfold bo at hxy ⊢
    by_cases cx : x < n <;> by_cases cy : y < n <;> simp only [cx, cy, ↓reduceIte] at hxy ⊢ <;> omega
  exact h ⟨ord _ _ hik hk c.1, ord _ _ hk e1.2 c.2.1, ord _ _ e1.2 e2.2 c.2.2⟩
end Go.Proofs.Ytjfkompfkgjdaaa.G
end
section
/- Products of diagrams are diagrams; three in a row; the identity. -/
namespace Go.Proofs.Ytjfkompfkgjdaaa.L
open Go.RowKit Go.Proofs.Ytjfkompfkgjdaaa.PC Go.Proofs.YtjfkompfkgjdaaaW.PrintWords Go.Proofs.YtjfkompfkgjdaaaW.PrintLast Go.Proofs.Ytjfkompfkgjdaaa.G
theorem Ev.det {α : Type} {g : Nat → Option α} {r s : α} (h : Ev g r) (k : Ev g s) : r = s := by
  obtain ⟨K, h⟩ := h
  obtain ⟨L, k⟩ := k
  have a := h (max K L) (Nat.le_max_left ..)
  have b := k (max K L) (Nat.le_max_right ..)
  rw [a] at b
  exact Option.some.inj b
theorem dia_ref {n : Nat} {l : List Int} (h : Dia n l) : Ev (fun k => pomaderef07_Diagram.f k l) 0 := by
  have hl := h.lm.len
  have hn := h.lim
  refine dia_even h.pos hn hl (dia_l0_miss (by omega) (fun y hy => h.lm.good (by omega)) (dia_l1_miss (by omega) h.lm (crs_nc.1 h.nc) (2 * n) 0 (by omega)) l.length 0 (by omega))
theorem dia_yes {n : Nat} {l : List Int} (h : Dia n l) : Ev (fun k => plait_of.f k l) 0 ∧ Ev (fun k => pomaderef07_Diagram.f k l) 0 ∧ Ev (fun k => plait_diagram_arches.f k l) (strOfNums (brk n l), true) := by
  obtain ⟨e, h1, h2, h3⟩ := dia_both l
  have e0 := Ev.det h2 (dia_ref h)
  subst e0
  rcases h3 with c | c | ⟨_, m, d, h3⟩
  · omega
  · omega
  · obtain rfl := h.two d
    exact ⟨h1, h2, h3⟩
theorem dia_of {l : List Int} (h : Ev (fun k => pomaderef07_Diagram.f k l) 0) : ∃ n, Dia n l := by
  obtain ⟨e, h1, h2, h3⟩ := dia_both l
  have e0 := Ev.det h2 h
  subst e0
  rcases h3 with c | c | ⟨_, m, d, h3⟩
  · omega
  · omega
  · exact ⟨m, d⟩
theorem nc_iff {n : Nat} {l : List Int} : NCD (2 * n) (Db n l) ↔ NCf n (fn l) := crs_nc
theorem ncf_congr {n : Nat} {a b : Nat → Nat} (h : ∀ z, z < 2 * n → a z = b z) (hb : NCf n b) : NCf n a := by
  intro i k hi hk
  rw [h i hi, h k hk]
  exact hb i k hi hk
theorem dia_prod {n : Nat} {a b : List Int} (ha : Dia n a) (hb : Dia n b) : Dia n (prodL n a b) :=
  ⟨ha.pos, ha.lim, prodL_lm ha.lm hb.lm, nc_iff.2 (ncf_congr (fun z hz => prodL_fn hz) (prod_nc ha.lm.mat hb.lm.mat (nc_iff.1 ha.nc) (nc_iff.1 hb.nc)))⟩
/-! ### the product depends on the points of the matchings alone -/
theorem jn_congr {n : Nat} {a a' b b' : Nat → Nat} (ha : ∀ z, z < 2 * n → a z = a' z) (hb : ∀ z, z < 2 * n → b z = b' z) : jn n a b = jn n a' b' := by
  funext z
  unfold jn
  by_cases c : z < 2 * n
  · rw [if_pos c, if_pos c, ha z c]
  · rw [if_neg c, if_neg c]
    by_cases d : z < 4 * n
    · rw [if_pos d, if_pos d, hb _ (by omega)]
    · rw [if_neg d, if_neg d]
theorem prod_congr {n : Nat} {a a' b b' : Nat → Nat} (ha : ∀ z, z < 2 * n → a z = a' z) (hb : ∀ z, z < 2 * n → b z = b' z) : prod n a b = prod n a' b' ∧ lops n a b = lops n a' b' := by
  unfold prod lops
  rw [jn_congr ha hb]
  exact ⟨rfl, rfl⟩
theorem lm_eq {n : Nat} {a b : List Int} (ha : LM n a) (hb : LM n b) (h : ∀ z, z < 2 * n → fn a z = fn b z) : a = b :=
  list_eq (by rw [ha.len, hb.len]) (fun z hz => by have := ha.len; rw [ha.nn z (by omega), hb.nn z (by omega), h z (by omega)])
theorem prodL_assoc {n : Nat} {a b c : List Int} (ha : LM n a) (hb : LM n b) (hc : LM n c) : prodL n (prodL n a b) c = prodL n a (prodL n b c) ∧
    lops n (fn (prodL n a b)) (fn c) + lops n (fn a) (fn b) = lops n (fn a) (fn (prodL n b c)) + lops n (fn b) (fn c) := by
  have h := assoc ha.mat hb.mat hc.mat
  have e1 := prod_congr (n := n) (a := fn (prodL n a b)) (a' := prod n (fn a) (fn b)) (b := fn c) (b' := fn c) (fun z hz => prodL_fn hz) (fun _ _ => rfl)
  have e2 := prod_congr (n := n) (a := fn a) (a' := fn a) (b := fn (prodL n b c)) (b' := prod n (fn b) (fn c)) (fun _ _ => rfl) (fun z hz => prodL_fn hz)
  refine ⟨lm_eq (prodL_lm (prodL_lm ha hb) hc) (prodL_lm ha (prodL_lm hb hc)) (fun z hz => ?_), ?_⟩
  · rw [prodL_fn hz, prodL_fn hz, e1.1, e2.1]; exact h.1 z hz
  · rw [e1.2, e2.2]; exact h.2
theorem idL_fn {n z : Nat} (h : z < 2 * n) : fn (idL n) z = G.idf n z := by
  show (rd (idL n) (z : Int)).toNat = _
  rw [idL_rd h, Int.toNat_natCast]; rfl
theorem prodL_id {n : Nat} {a : List Int} (ha : LM n a) : prodL n a (idL n) = a ∧ prodL n (idL n) a = a ∧ lops n (fn a) (fn (idL n)) = 0 ∧ lops n (fn (idL n)) (fn a) = 0 := by
  have e1 := prod_congr (n := n) (a := fn a) (a' := fn a) (b := fn (idL n)) (b' := G.idf n) (fun _ _ => rfl) (fun z hz => idL_fn hz)
  have e2 := prod_congr (n := n) (a := fn (idL n)) (a' := G.idf n) (b := fn a) (b' := fn a) (fun z hz => idL_fn hz) (fun _ _ => rfl)
  refine ⟨lm_eq (prodL_lm ha (idL_lm n)) ha (fun z hz => ?_), lm_eq (prodL_lm (idL_lm n) ha) ha (fun z hz => ?_), ?_, ?_⟩
  · rw [prodL_fn hz, e1.1]; exact prod_id ha.mat hz
  · rw [prodL_fn hz, e2.1]; exact id_prod ha.mat hz
  · rw [e1.2]; exact (lops_id ha.mat).1
  · rw [e2.2]; exact (lops_id ha.mat).2
theorem idL_dia {n : Nat} (h0 : 0 < n) (h1 : n ≤ 10) : Dia n (idL n) := by
  refine ⟨h0, h1, idL_lm n, nc_iff.2 (ncf_congr (fun z hz => idL_fn hz) (fun i k hi hk c => ?_))⟩
  unfold G.bo G.idf at c
  by_cases ci : i < n <;> by_cases ck : k < n <;> simp only [ci, ck, ↓reduceIte] at c <;> (repeat' split at c) <;> omega
end Go.Proofs.Ytjfkompfkgjdaaa.L
end
section
/- The product as the specification makes it is the gluing along the middle. -/
namespace Go.Proofs.Ytjfkompfkgjdaaa.L
open Go.RowKit Go.Proofs.Ytjfkompfkgjdaaa.PC Go.Proofs.YtjfkompfkgjdaaaW.PrintWords Go.Proofs.YtjfkompfkgjdaaaW.PrintLast Go.Proofs.Ytjfkompfkgjdaaa.G
theorem sg_step {n : Nat} {a b : List Int} (hn : n ≤ 500) (ha : LM n a) (hb : LM n b) (T : List Bool) (out : List Int) (i z : Nat) (hz : z < 4 * n) (k : Nat) :
    pomaderef07_product.l1 (k + 1) a b (n : Int) T out (i : Int) (z : Int) = pomaderef07_product.j3 k a b (n : Int) T out (i : Int) (sg n a b z : Int) := by
  have la := ha.len
  have lb := hb.len
  simp only [pomaderef07_product.l1]
  rw [pw64 (x := 2 * (n : Int)) (by omega) (by omega)]
  by_cases c : z < 2 * n
  · rw [if_pos (by omega), if_pos (by omega), if_pos (by omega), ha.nn z c, show sg n a b z = fn a z from jn_lo c]
  · obtain ⟨y, rfl⟩ : ∃ y, z = 2 * n + y := ⟨z - 2 * n, by omega⟩
    have hy : y < 2 * n := by omega
    have := (hb.mat y hy).1
    rw [if_neg (by omega), pw64 (x := ((2 * n + y : Nat) : Int) - 2 * (n : Int)) (by omega) (by omega), show ((2 * n + y : Nat) : Int) - 2 * (n : Int) = (y : Int) by omega, if_pos (by omega), if_pos (by omega), hb.nn y hy, pw64 (by omega) (by omega), show sg n a b (2 * n + y) = 2 * n + fn b y from jn_hi hy]
    congr 1
theorem j3_step {n : Nat} {a b : List Int} (hn : n ≤ 500) (T : List Bool) (hT : T.length = 4 * n) (out : List Int) (i x : Nat) (hx : x < 4 * n) (k : Nat) :
    pomaderef07_product.j3 (k + 1) a b (n : Int) T out (i : Int) (x : Int) = pomaderef07_product.j4 k a b (n : Int) (T.set x true) out (i : Int) (x : Int) (decide (x < n ∨ 3 * n ≤ x)) := by
  simp only [pomaderef07_product.j3]
  rw [if_pos (by omega), if_pos (by omega), Option.bind_some, pw64 (x := 3 * (n : Int)) (by omega) (by omega), Int.toNat_natCast]
  by_cases c : x < n
  · rw [if_pos (by omega), decide_eq_true (.inl c)]
  · rw [if_neg (by omega)]
    congr 1
    rw [decide_eq_decide]; omega
theorem ref_way {n : Nat} {a b : List Int} (hn : n ≤ 500) (ha : LM n a) (hb : LM n b) (P : Nat → Prop) (p0 : Nat) (out : List Int) (ho2 : out.length = 2 * n) (i : Nat) (hi : i < 2 * n) (d : Nat) : ∀ (z : Nat) (T : List Bool), z < 4 * n → T.length = 4 * n →
    ¬ pts (mids n) (itr (stp n a b) (d + 1) z) → (∀ i, i < d → pts (mids n) (itr (stp n a b) (i + 1) z)) →
    W1 (sg n a b) (tau (mids n)) (pts (mids n)) P p0 z (bM T) →
    ∃ q T', T'.length = 4 * n ∧ Path (sg n a b) (mids n) z q ∧ W0 (sg n a b) (tau (mids n)) (pts (mids n)) (fun u => P u ∨ u = p0) (bM T') ∧
      ∀ r, Ev (fun k => pomaderef07_product.l0 k a b (n : Int) T' (out.set i (une n q : Int)) ((i + 1 : Nat) : Int)) r → Ev (fun k => pomaderef07_product.l1 k a b (n : Int) T out (i : Int) (z : Int)) r := by
  have ho := mids_ok ha.mat hb.mat
  have hs := jn_inv ha.mat hb.mat
  have ht := tau_inv ho
  have bset : ∀ (T : List Bool) (x u : Nat), x < T.length → (bM (T.set x true) u ↔ bM T u ∨ u = x) := fun T x u h => getD_set T x u h
  induction d with
  | zero =>
    intro z T hz hT h1 _ hW
    have hn' : ¬ pts (mids n) (sg n a b z) := fun e => h1 (tau_pts ho e)
    have hlt : sg n a b z < 4 * n := jn_lt ha.mat hb.mat hz
    have hout := hn'
    rw [mids_pts] at hout
    refine ⟨sg n a b z, T.set (sg n a b z) true, by simpa using hT, .out _ hn', ?_, fun r hr => ?_⟩
    · have w := hW.fin hn'
      have same : ∀ u, pts (mids n) u → (bM (T.set (sg n a b z) true) u ↔ bM T u) := fun u hu => by
        rw [bset _ _ _ (by omega)]
        exact ⟨fun h => h.elim id (fun e => absurd (e ▸ hu) hn'), .inl⟩
      refine ⟨fun u hu => ?_, fun u hu h => ?_, fun u hu h => w.low u hu ((same u hu).1 h)⟩
      · by_cases m : pts (mids n) (sg n a b u)
        · have := w.cl u (hu.elim (fun h => .inl ⟨h.1, (same u h.1).1 h.2⟩) .inr)
          exact .inr ((same _ m).2 (this.resolve_left (fun f => f m)))
        · exact .inl m
      · exact (same _ (tau_pts ho hu)).2 (w.ct u hu ((same u hu).1 h))
    · refine Ev.step (fun k => sg_step hn ha hb T out i z hz k) (Ev.step (fun k => j3_step hn T hT out i _ hlt k) (Ev.step (fun k => ?_) hr))
      rw [decide_eq_true (by omega)]
      simp only [pomaderef07_product.j4]
      rw [if_pos trivial, pw64 (x := 3 * (n : Int)) (by omega) (by omega)]
      have e1 : wrap64 ((i : Int) + 1) = ((i + 1 : Nat) : Int) := by rw [pw64 (by omega) (by omega)]; rfl
      by_cases c : sg n a b z < n
      · rw [if_neg (by omega), if_pos (by omega), if_pos (by omega), Int.toNat_natCast, e1]
        unfold une; rw [if_pos c]
      · rw [if_pos (by omega), if_pos (by omega), if_pos (by omega), Int.toNat_natCast, e1, pw64 (x := 2 * (n : Int)) (by omega) (by omega), pw64 (by omega) (by omega)]
        unfold une; rw [if_neg c, show ((sg n a b z : Nat) : Int) - 2 * (n : Int) = ((sg n a b z - 2 * n : Nat) : Int) by omega]
  | succ d ih =>
    intro z T hz hT h1 h2 hW
    have h3 : pts (mids n) (sg n a b z) := by
      have := h2 0 (by omega)
      have e : itr (stp n a b) (0 + 1) z = tau (mids n) (sg n a b z) := rfl
      rw [e] at this
      have := tau_pts ho this
      rwa [ht] at this
    have h3' := mids_pts.1 h3
    have h4' := mids_pts.1 (tau_pts ho h3)
    have hM : ∀ u, pts (mids n) u → (bM ((T.set (sg n a b z) true).set (tau (mids n) (sg n a b z)) true) u ↔ bM T u ∨ u = sg n a b z ∨ u = tau (mids n) (sg n a b z)) := by
      intro u _
      rw [bset _ _ _ (by simp; omega), bset _ _ _ (by omega), or_assoc]
    obtain ⟨q, T', g1, g2, g3, g4⟩ := ih (tau (mids n) (sg n a b z)) _ (by omega) (by simpa using hT) h1 (fun i hi => h2 (i + 1) (by omega)) (hW.step hs ht (fun u hu => tau_pts ho hu) h3 hM)
    refine ⟨q, T', g1, .via _ _ h3 g2, g3, fun r hr => ?_⟩
    refine Ev.step (fun k => sg_step hn ha hb T out i z hz k) (Ev.step (fun k => j3_step hn T hT out i _ (by omega) k) (Ev.step (fun k => ?_) (g4 r hr)))
    rw [decide_eq_false (by omega)]
    simp only [pomaderef07_product.j4]
    rw [if_neg (by decide), pw64 (x := 2 * (n : Int)) (by omega) (by omega)]
    by_cases c : sg n a b z < 2 * n
    · have e : tau (mids n) (sg n a b z) = sg n a b z + n := by
        have := (tau_up ha.mat hb.mat (m := sg n a b z - n) (by omega)).1
        rw [show n + (sg n a b z - n) = sg n a b z by omega] at this
        rw [this]; omega
      rw [if_pos (by omega), pw64 (by omega) (by omega), if_pos (by omega), if_pos (by simp; omega), e]
      rfl
    · have e : tau (mids n) (sg n a b z) = sg n a b z - n := by
        have := (tau_up ha.mat hb.mat (m := sg n a b z - 2 * n) (by omega)).2
        rw [show 2 * n + (sg n a b z - 2 * n) = sg n a b z by omega] at this
        rw [this]; omega
      rw [if_neg (by omega), pw64 (by omega) (by omega), if_pos (by omega), if_pos (by simp; omega), e, show ((sg n a b z : Nat) : Int) - (n : Int) = ((sg n a b z - n : Nat) : Int) by omega]
      rfl
theorem ref_ways {n : Nat} {a b : List Int} (hn : n ≤ 500) (ha : LM n a) (hb : LM n b) (d : Nat) : ∀ (i : Nat) (out : List Int) (T : List Bool), i + d = 2 * n → out.length = 2 * n → T.length = 4 * n →
    (∀ j, j < i → rd out (j : Int) = (prod n (fn a) (fn b) j : Int)) →
    W0 (sg n a b) (tau (mids n)) (pts (mids n)) (fun u => ∃ j, j < i ∧ u = emb n j) (bM T) →
    ∃ T', T'.length = 4 * n ∧ W0 (sg n a b) (tau (mids n)) (pts (mids n)) (fun u => ∃ j, j < 2 * n ∧ u = emb n j) (bM T') ∧
      ∀ r, Ev (fun k => pomaderef07_product.l2 k a b (n : Int) T' (prodL n a b) 0 (n : Int)) r → Ev (fun k => pomaderef07_product.l0 k a b (n : Int) T out (i : Int)) r := by
  have ho := mids_ok ha.mat hb.mat
  have hs := jn_inv ha.mat hb.mat
  have ht := tau_inv ho
  induction d with
  | zero =>
    intro i out T hi hl hT hr hW
    obtain rfl : i = 2 * n := by omega
    have e : out = prodL n a b := list_eq (by rw [prodL_len, hl]) (fun z hz => by rw [prodL_rd (by omega), hr z (by omega)])
    refine ⟨T, hT, hW, fun r hr => Ev.step (fun k => ?_) hr⟩
    simp only [pomaderef07_product.l0]
    rw [pw64 (by omega) (by omega), if_neg (by omega), e]
  | succ d ih =>
    intro i out T hi hl hT hr hW
    have em := emb_out (n := n) (p := i) (by omega)
    obtain ⟨k, hk, h1, h2⟩ := leaves (f := stp n a b) (fun x y h => hs.inj (ht.inj h)) (pts (mids n)) (fun z => z - n) (2 * n) (fun z hz => by rw [mids_pts] at hz; omega) (fun u v hu hv h => by rw [mids_pts] at hu hv; omega) (emb n i) em.1
    have same : ∀ u, pts (mids n) u → (bM (T.set (emb n i) true) u ↔ bM T u) := fun u hu => by
      rw [show bM (T.set (emb n i) true) u ↔ _ from getD_set T _ u (by omega)]
      exact ⟨fun h => h.elim id (fun e => absurd (e ▸ hu) em.1), .inl⟩
    have w1 : W0 (sg n a b) (tau (mids n)) (pts (mids n)) (fun u => ∃ j, j < i ∧ u = emb n j) (bM (T.set (emb n i) true)) := by
      refine ⟨fun u hu => ?_, fun u hu h => ?_, fun u hu h => hW.low u hu ((same u hu).1 h)⟩
      · by_cases m : pts (mids n) (sg n a b u)
        · have := hW.cl u (hu.elim (fun h => .inl ⟨h.1, (same u h.1).1 h.2⟩) .inr)
          exact .inr ((same _ m).2 (this.resolve_left (fun f => f m)))
        · exact .inl m
      · exact (same _ (tau_pts ho hu)).2 (hW.ct u hu ((same u hu).1 h))
    obtain ⟨q, T1, g1, g2, g3, g4⟩ := ref_way hn ha hb _ (emb n i) out hl i (by omega) k (emb n i) (T.set (emb n i) true) em.2 (by simpa using hT) h1 h2 (w1.start em.1)
    rw [prod_path ha.mat hb.mat (by omega) g2] at g4
    obtain ⟨T', g5, g6, g7⟩ := ih (i + 1) (out.set i (prod n (fn a) (fn b) i : Int)) T1 (by omega) (by simpa using hl) g1 (by
      intro j hj
      rw [rd_set _ _ _ _ (by omega)]
      by_cases c : j = i
      · rw [if_pos c, c]
      · rw [if_neg c]; exact hr j (by omega)) (W0.congr g3 (fun u ⟨j, hj, hu⟩ => by
          by_cases c : j = i
          · exact .inr (c ▸ hu)
          · exact .inl ⟨j, by omega, hu⟩))
    refine ⟨T', g5, g6, fun r hr => ?_⟩
    refine Ev.step (f := fun k => pomaderef07_product.j1 k a b (n : Int) T out (i : Int) (emb n i : Int)) (fun k => ?_) (Ev.step (fun k => ?_) (g4 r (g7 r hr)))
    · simp only [pomaderef07_product.l0]
      rw [pw64 (x := 2 * (n : Int)) (by omega) (by omega), if_pos (by omega)]
      by_cases c : i < n
      · rw [if_neg (by omega), show emb n i = i by unfold emb; rw [if_pos c]]
      · rw [if_pos (by omega), pw64 (by omega) (by omega), show emb n i = i + 2 * n by unfold emb; rw [if_neg c]]
        rfl
    · simp only [pomaderef07_product.j1]
      rw [if_pos (by omega), if_pos (by omega), Int.toNat_natCast]
theorem ref_round {n : Nat} {a b : List Int} (hn : n ≤ 500) (ha : LM n a) (hb : LM n b) (T0 : List Bool) (out : List Int) (many : Int) (i : Nat) (hi : i < n) (c : Nat) : ∀ (m : Nat) (T : List Bool), T.count false ≤ c → T.length = 4 * n →
    (∀ m, m < n → ¬ CL n a b m → bM T (n + m)) → Rd (CL n a b) (fA n a) (fn b) (fun m => bM T0 (n + m)) (fun m => bM T (n + m)) i m →
    ∃ T', T'.length = 4 * n ∧ (∀ m, m < n → ¬ CL n a b m → bM T' (n + m)) ∧ (∀ m, CL n a b m → (bM T' (n + m) ↔ bM T0 (n + m) ∨ Conn (fA n a) (fn b) i m)) ∧
      ∀ r, Ev (fun k => pomaderef07_product.l2 k a b (n : Int) T' out many ((n + i + 1 : Nat) : Int)) r → Ev (fun k => pomaderef07_product.l3 k a b (n : Int) T out many ((n + i : Nat) : Int) ((n + m : Nat) : Int)) r := by
  obtain ⟨pa, pb⟩ := cl_pairs ha.mat hb.mat
  have hIx := cl_ixs ha.mat hb.mat
  have la := ha.len
  have lb := hb.len
  have stop : ∀ (m : Nat) (T : List Bool), T.length = 4 * n → m < n → bM T (n + m) → ∀ r, Ev (fun k => pomaderef07_product.l2 k a b (n : Int) T out many ((n + i + 1 : Nat) : Int)) r → Ev (fun k => pomaderef07_product.l3 k a b (n : Int) T out many ((n + i : Nat) : Int) ((n + m : Nat) : Int)) r := by
    intro m T hT hm ht r hr
    refine Ev.step (fun k => ?_) hr
    simp only [pomaderef07_product.l3]
    rw [if_pos (by omega), if_pos (by omega), if_pos (show rdOf false T ((n + m : Nat) : Int) = true from ht), pw64 (by omega) (by omega)]
    rfl
  induction c with
  | zero =>
    intro m T hc hT hU hR
    have hm := hR.uc.1
    have ht : bM T (n + m) := by
      unfold bM
      cases e : T.getD (n + m) false with
      | true => rfl
      | false => exact absurd (Nat.le_zero.1 hc) (count_pos (by omega) e)
    exact ⟨T, hT, hU, hR.fin pa pb ht, stop m T hT hm ht⟩
  | succ c ih =>
    intro m T hc hT hU hR
    have hm := hR.uc.1
    by_cases ht : bM T (n + m)
    · exact ⟨T, hT, hU, hR.fin pa pb ht, stop m T hT hm ht⟩
    · have uA := pa.mem m hR.uc
      have hA : fA n a m < n := uA.1
      have uB := pb.mem _ uA
      have hB : fn b (fA n a m) < n := uB.1
      have s1 := (hIx.sA m hR.uc).2
      simp only [up] at s1
      rw [jn_lo (by omega)] at s1
      have e := count_set T (n + m) (by omega) (by unfold bM at ht; simpa using ht)
      have e2 := count_set_le (T.set (n + m) true) (n + fA n a m)
      have e3 := count_set_le ((T.set (n + m) true).set (n + fA n a m) true) (2 * n + fn b (fA n a m))
      have bs : ∀ (T : List Bool) (x u : Nat), x < T.length → (bM (T.set x true) u ↔ bM T u ∨ u = x) := fun T x u h => getD_set T x u h
      have all : ∀ m', m' < n → (bM (((T.set (n + m) true).set (n + fA n a m) true).set (2 * n + fn b (fA n a m)) true) (n + m') ↔ bM T (n + m') ∨ m' = m ∨ m' = fA n a m) := by
        intro m' hm'
        rw [bs _ _ _ (by simp; omega), bs _ _ _ (by simp; omega), bs _ _ _ (by omega)]
        constructor
        · rintro (((h | h) | h) | h)
          · exact .inl h
          · exact .inr (.inl (by omega))
          · exact .inr (.inr (by omega))
          · omega
        · rintro (h | h | h)
          · exact .inl (.inl (.inl h))
          · exact .inl (.inl (.inr (by rw [h])))
          · exact .inl (.inr (by rw [h]))
      obtain ⟨T', g1, g2, g3, g4⟩ := ih (fn b (fA n a m)) _ (by omega) (by simpa using hT)
        (fun m' hm' h => (all m' hm').2 (.inl (hU m' hm' h))) (hR.step pa pb ht (fun m' um' => all m' um'.1))
      refine ⟨T', g1, g2, g3, fun r hr => ?_⟩
      refine Ev.step (fun k => ?_) (g4 r hr)
      simp only [pomaderef07_product.l3]
      have f1 : rd a ((n + m : Nat) : Int) = ((n + fA n a m : Nat) : Int) := by rw [ha.nn _ (by omega), s1]
      have f2 : rd b ((fA n a m : Nat) : Int) = (fn b (fA n a m) : Int) := hb.nn _ (by omega)
      rw [if_pos (by omega), if_pos (by omega), if_neg (show ¬ rdOf false T ((n + m : Nat) : Int) = true from ht), if_pos (by omega), f1, if_pos (by omega), if_pos (by omega), pw64 (x := ((n + fA n a m : Nat) : Int) - (n : Int)) (by omega) (by omega), show ((n + fA n a m : Nat) : Int) - (n : Int) = (fA n a m : Int) by omega, if_pos (by omega), if_pos (by omega), f2, pw64 (x := 2 * (n : Int)) (by omega) (by omega), pw64 (x := 2 * (n : Int) + (fn b (fA n a m) : Int)) (by omega) (by omega), if_pos (by omega), if_pos (by omega), pw64 (by omega) (by omega), show 2 * (n : Int) + (fn b (fA n a m) : Int) - (n : Int) = ((n + fn b (fA n a m) : Nat) : Int) by omega, show (2 * (n : Int) + (fn b (fA n a m) : Int)).toNat = 2 * n + fn b (fA n a m) by omega]
      rfl
theorem ref_loops {n : Nat} {a b : List Int} (hn : n ≤ 500) (ha : LM n a) (hb : LM n b) (out : List Int) (d : Nat) : ∀ (i : Nat) (T : List Bool), i + d = n → T.length = 4 * n →
    (∀ m, m < n → ¬ CL n a b m → bM T (n + m)) → MetI (CL n a b) (fA n a) (fn b) i (fun m => bM T (n + m)) →
    Ev (fun k => pomaderef07_product.l2 k a b (n : Int) T out (cntP (Fst (CL n a b) (fA n a) (fn b)) i : Int) ((n + i : Nat) : Int)) (out, (cntP (Fst (CL n a b) (fA n a) (fn b)) n : Int)) := by
  obtain ⟨pa, pb⟩ := cl_pairs ha.mat hb.mat
  induction d with
  | zero =>
    intro i T hi hT hU hM
    obtain rfl : i = n := by omega
    refine Ev.step (f := fun _ => some (out, (cntP (Fst (CL i a b) (fA i a) (fn b)) i : Int))) (fun k => ?_) (Ev.now _)
    simp only [pomaderef07_product.l2]
    rw [pw64 (by omega) (by omega), if_neg (by omega)]
  | succ d ih =>
    intro i T hi hT hU hM
    have hle := cntP_le (Fst (CL n a b) (fA n a) (fn b)) i
    by_cases c : bM T (n + i)
    · obtain ⟨m1, m2⟩ := hM.skip (fun _ => c)
      have := ih (i + 1) T (by omega) hT hU m1
      simp only [cntP] at this
      rw [if_neg m2] at this
      refine Ev.step (fun k => ?_) this
      simp only [pomaderef07_product.l2]
      rw [pw64 (x := 2 * (n : Int)) (by omega) (by omega), if_pos (by omega), if_pos (by omega), if_pos (by omega), if_pos (show rdOf false T ((n + i : Nat) : Int) = true from c), pw64 (by omega) (by omega)]
      rfl
    · have ui : CL n a b i := Classical.byContradiction fun e => c (hU i (by omega) e)
      obtain ⟨ca, cb⟩ := hM.closed pa pb
      obtain ⟨m2, g1, g2, g3, g4⟩ := ref_round hn ha hb T out (cntP (Fst (CL n a b) (fA n a) (fn b)) i + 1 : Nat) i (by omega) _ i T (Nat.le_refl _) hT hU (Rd.start pa pb ca cb ui c)
      obtain ⟨n1, n2⟩ := hM.round ui c g3
      have := ih (i + 1) m2 (by omega) g1 g2 n1
      simp only [cntP] at this
      rw [if_pos n2] at this
      refine Ev.step (fun k => ?_) (g4 _ this)
      simp only [pomaderef07_product.l2]
      rw [pw64 (x := 2 * (n : Int)) (by omega) (by omega), if_pos (by omega), if_pos (by omega), if_pos (by omega), if_neg (show ¬ rdOf false T ((n + i : Nat) : Int) = true from c), pw64 (by omega) (by omega)]
      rfl
/-- the specification's product is the gluing -/
theorem ref_product {n : Nat} {a b : List Int} (hn : n ≤ 500) (ha : LM n a) (hb : LM n b) : Ev (fun k => pomaderef07_product.f k a b) (prodL n a b, (lops n (fn a) (fn b) : Int)) := by
  have ho := mids_ok ha.mat hb.mat
  have la := ha.len
  have w0 : W0 (sg n a b) (tau (mids n)) (pts (mids n)) (fun u => ∃ j, j < 0 ∧ u = emb n j) (bM (List.replicate (4 * n) false)) := by
    have no : ∀ u, ¬ bM (List.replicate (4 * n) false) u := fun u h => by
      unfold bM at h
      rw [List.getD_eq_getElem?_getD, List.getElem?_replicate] at h
      split at h <;> simp at h
    exact ⟨fun u hu => hu.elim (fun h => absurd h.2 (no u)) (fun h => by obtain ⟨j, hj, _⟩ := h.2; omega), fun u _ h => absurd h (no u), fun u _ h => absurd h (no u)⟩
  obtain ⟨T, g1, g2, g3⟩ := ref_ways hn ha hb (2 * n) 0 (List.replicate (2 * n) 0) (List.replicate (4 * n) false) (by omega) (by simp) (by simp) (fun j hj => by omega) w0
  have all := g2.all (fun u hu => (tau_out ho).2 hu) (fun u hu => by
    by_cases c : u < 4 * n
    · have e := emb_une hu c; exact .inl ⟨une n u, e.2, e.1.symm⟩
    · exact .inr (jn_off (by omega)))
  have hT : ∀ m, m < n → (bM T (n + m) ↔ ¬ CL n a b m) := fun m hm => by
    rw [← met_cl ha.mat hb.mat hm, ← all (n + m) (mids_pts.2 (by omega))]
  have g4 := ref_loops hn ha hb (prodL n a b) n 0 T (by omega) g1 (fun m hm h => (hT m hm).2 h) (fun m um => ⟨fun t => absurd um ((hT m um.1).1 t), fun ⟨j, hj, _⟩ => by omega⟩)
  rw [← lops_fst ha.mat hb.mat] at g4
  have g5 := g3 _ g4
  refine Ev.congr (fun k => ?_) g5
  have e : wrap64 ((a.length : Int) / 2) = (n : Int) := by rw [pw64 (by omega) (by omega)]; omega
  have e4 : wrap64 (4 * (n : Int)) = ((4 * n : Nat) : Int) := by rw [pw64 (by omega) (by omega)]; omega
  have e2 : wrap64 (2 * (n : Int)) = ((2 * n : Nat) : Int) := by rw [pw64 (by omega) (by omega)]; omega
  unfold pomaderef07_product.f
  rw [e, e4, e2, if_pos (by omega), if_pos (by omega), if_pos (by omega), if_pos (by omega), Int.toNat_natCast, Int.toNat_natCast]
  rfl
end Go.Proofs.Ytjfkompfkgjdaaa.L
end
section
/- Closed curves: the trace of a product, and how many there can be: plain. -/
namespace Go.Proofs.Ytjfkompfkgjdaaa.G
/-! ### closed: every point with the one across -/
def ext (n : Nat) (d : Nat → Nat) (z : Nat) : Nat := if z < 2 * n then d z else z
theorem ext_lo {n : Nat} {d : Nat → Nat} {z : Nat} (h : z < 2 * n) : ext n d z = d z := by unfold ext; rw [if_pos h]
def acr (n : Nat) : List (Nat × Nat) := prs (fun i => i) (fun i => n + i) n
/-- how many closed curves -/
def cls (n : Nat) (d : Nat → Nat) : Nat := (glue (acr n) (ext n d)).2
theorem cntP_add (P : Nat → Prop) (m k : Nat) : cntP P (m + k) = cntP P m + cntP (fun i => P (m + i)) k := by
  induction k with
  | zero => rfl
  | succ k ih => rw [← Nat.add_assoc]; simp only [cntP]; rw [ih]; omega
/-- the trace: the curves of a product closed, with its loops, are those of both in a ring -/
theorem trace {n : Nat} {a b : Nat → Nat} (ha : Mat n a) (hb : Mat n b) : cls n (prod n a b) + lops n a b = cls n (prod n b a) + lops n b a := by
  have ring : ∀ {a b : Nat → Nat}, Mat n a → Mat n b → cls n (prod n a b) + lops n a b = (glue (mids n ++ prs (fun i => i) (fun i => 3 * n + i) n) (jn n a b)).2 := by
    intro a b ha hb
    have hp := prod_mat ha hb
    have hF : ∀ u v, u < 2 * n → v < 2 * n → emb n u = emb n v → u = v := fun u v _ _ e => by have := congrArg (une n) e; rwa [une_emb, une_emb] at this
    have h : Emb (2 * n) (emb n) (ext n (prod n a b)) (glue (mids n) (jn n a b)).1 := fun z hz => by
      rw [ext_lo hz]
      exact ⟨(hp z hz).1, (prod_emb ha hb hz).1.symm⟩
    have g := (glue_emb hF (acr n) h (fun p hp => by obtain ⟨i, hi, rfl⟩ := prs_mem hp; dsimp only; omega)).2
    have e : (acr n).map (fun p => (emb n p.1, emb n p.2)) = prs (fun i => i) (fun i => 3 * n + i) n := by
      unfold acr
      rw [prs_map]
      exact prs_congr n (fun i hi => by unfold emb; rw [if_pos hi, if_neg (by omega)]; omega)
    rw [e] at g
    rw [glue_app]
    show _ = _ + (glue (mids n) (jn n a b)).2
    rw [g]
    rfl
  rw [ring ha hb, ring hb ha]
  let S : Nat → Nat := fun z => if z < 2 * n then 2 * n + z else z - 2 * n
  have hS : ∀ u v, u < 4 * n → v < 4 * n → S u = S v → u = v := by
    intro u v hu hv e
    simp only [S] at e
    split at e <;> split at e <;> omega
  have eS : Emb (4 * n) S (jn n b a) (jn n a b) := fun z hz => ⟨jn_lt hb ha hz, by
    rcases @jn_cases n z with h | ⟨y, h, rfl⟩ | h
    · have := (hb z h).1
      simp only [S]; rw [jn_lo h, if_pos h, if_pos this, jn_hi h]
    · have := (ha y h).1
      simp only [S]; rw [jn_hi h, if_neg (by omega), if_neg (by omega), Nat.add_sub_cancel_left, Nat.add_sub_cancel_left, jn_lo h]
    · omega⟩
  have g := (glue_emb hS (mids n ++ prs (fun i => i) (fun i => 3 * n + i) n) eS (fun p hp => by
    rcases List.mem_append.1 hp with hp | hp
    · obtain ⟨i, hi, rfl⟩ := prs_mem hp; simp only [up, dn]; omega
    · obtain ⟨i, hi, rfl⟩ := prs_mem hp; dsimp only; omega)).2
  rw [← g, List.map_append]
  have e1 : (mids n).map (fun p => (S p.1, S p.2)) = prs (fun i => 3 * n + i) (fun i => i) n := by
    unfold mids
    rw [prs_map]
    exact prs_congr n (fun i hi => by simp only [S, up, dn]; rw [if_pos (by omega), if_neg (by omega)]; omega)
  have e2 : (prs (fun i => i) (fun i => 3 * n + i) n).map (fun p => (S p.1, S p.2)) = prs (dn n) (up n) n := by
    rw [prs_map]
    exact prs_congr n (fun i hi => by simp only [S, up, dn]; rw [if_pos (by omega), if_neg (by omega)]; omega)
  rw [e1, e2]
  have hi := jn_inv ha hb
  have okM := mids_ok ha hb
  have okO : OK (jn n a b) (prs (fun i => i) (fun i => 3 * n + i) n) := prs_ok n (fun i j _ _ => by omega) (fun i hi => ⟨(jn_alive ha hb).2 (by omega), (jn_alive ha hb).2 (by omega)⟩)
  have okMO : OK (jn n a b) (mids n ++ prs (fun i => i) (fun i => 3 * n + i) n) := okM.app okO (fun z h1 h2 => by
    have := mids_pts.1 h1
    obtain ⟨i, h, e⟩ := (pts_prs _ _ _ _).1 h2
    omega)
  obtain ⟨same, okOM⟩ := glue_perm (List.perm_append_comm (l₁ := mids n) (l₂ := prs (fun i => i) (fun i => 3 * n + i) n)) _ hi okMO
  rw [same, glue_app, glue_app]
  have f1 := prs_flip n _ hi okO
  rw [f1]
  have ok2 := glue_ok _ _ _ hi okOM
  have f2 := prs_flip n _ (glue_inv _ _ hi okO) ok2
  rw [f2]
  rfl
/-! ### halves -/
theorem cntP_mono {P Q : Nat → Prop} (N : Nat) (h : ∀ i, i < N → P i → Q i) : cntP P N ≤ cntP Q N := by
  induction N with
  | zero => exact Nat.le_refl _
  | succ N ih =>
    have := ih (fun i hi => h i (by omega))
    simp only [cntP]
    by_cases c : P N
    · rw [if_pos c, if_pos (h N (by omega) c)]; omega
    · rw [if_neg c]; omega
theorem cntP_eq {P Q : Nat → Prop} (N : Nat) (h : ∀ i, i < N → P i → Q i) (he : cntP P N = cntP Q N) : ∀ i, i < N → Q i → P i := by
  induction N with
  | zero => intro i hi; omega
  | succ N ih =>
    intro i hi hq
    have m := cntP_mono N (fun i hi => h i (by omega))
    simp only [cntP] at he
    by_cases c : P N
    · rw [if_pos c, if_pos (h N (by omega) c)] at he
      by_cases e : i = N
      · rw [e]; exact c
      · exact ih (fun i hi => h i (by omega)) (by omega) i (by omega) hq
    · by_cases d : Q N
      · rw [if_neg c, if_pos d] at he; omega
      · rw [if_neg c, if_neg d] at he
        by_cases e : i = N
        · subst e; exact absurd hq d
        · exact ih (fun i hi => h i (by omega)) (by omega) i (by omega) hq
open Classical in
theorem cntP_list (P : Nat → Prop) (N : Nat) : cntP P N = (List.range N).countP (fun i => decide (P i)) := by
  induction N with
  | zero => rfl
  | succ N ih =>
    rw [List.range_succ, List.countP_append, ← ih]
    simp only [cntP]
    by_cases c : P N <;> simp [c]
theorem cntP_perm {N : Nat} {A : Nat → Nat} (hA : PairN N A) (P : Nat → Prop) : cntP (fun i => P (A i)) N = cntP P N := by
  classical
  rw [cntP_list, cntP_list]
  have nd : ((List.range N).map A).Nodup := by
    unfold List.Nodup
    rw [List.pairwise_map]
    refine List.Pairwise.imp_of_mem (fun {a b} ha hb hne e => ?_) List.nodup_range
    have h1 := hA a (List.mem_range.1 ha)
    have h2 := hA b (List.mem_range.1 hb)
    exact hne (by rw [← h1.2.2, e, h2.2.2])
  have pm : ((List.range N).map A).Perm (List.range N) := (List.perm_ext_iff_of_nodup nd List.nodup_range).2 (fun x => by
    rw [List.mem_map, List.mem_range]
    constructor
    · rintro ⟨y, hy, rfl⟩; exact (hA y (List.mem_range.1 hy)).1
    · intro hx; exact ⟨A x, List.mem_range.2 (hA x hx).1, (hA x hx).2.2⟩)
  have := pm.countP_eq (fun i => decide (P i))
  rw [List.countP_map] at this
  rw [← this]
  congr 1
end Go.Proofs.Ytjfkompfkgjdaaa.G
end
section
/- Through strands, and diagrams turned: plain. -/
namespace Go.Proofs.Ytjfkompfkgjdaaa.G
/-! ### through strands -/
noncomputable def thr (n : Nat) (d : Nat → Nat) : Nat := cntP (fun i => n ≤ d i) n
theorem cntP_low {n : Nat} (Q : Nat → Prop) : cntP (fun z => z < n ∧ Q z) (2 * n) = cntP Q n := by
  rw [show 2 * n = n + n by omega, cntP_add, cntP_none (P := fun i => n + i < n ∧ Q (n + i)) n (fun i _ h => by omega), Nat.add_zero]
  exact cntP_congr n (fun i hi => ⟨fun h => h.2, fun h => ⟨hi, h⟩⟩)
theorem cntP_high {n : Nat} (Q : Nat → Prop) : cntP (fun z => n ≤ z ∧ Q z) (2 * n) = cntP (fun i => Q (n + i)) n := by
  rw [show 2 * n = n + n by omega, cntP_add, cntP_none (P := fun i => n ≤ i ∧ Q i) n (fun i _ h => by omega), Nat.zero_add]
  exact cntP_congr n (fun i hi => ⟨fun h => h.2, fun h => ⟨by omega, h⟩⟩)
theorem thr_low {n : Nat} {d : Nat → Nat} (hd : Mat n d) : thr n d = cntP (fun i => d (n + i) < n) n := by
  unfold thr
  rw [← cntP_low, ← cntP_high (fun z => d z < n), ← cntP_perm (N := 2 * n) hd (fun z => z < n ∧ n ≤ d z)]
  refine cntP_congr _ (fun z hz => ?_)
  have := (hd z hz).2.2
  rw [this]
  exact ⟨fun h => ⟨h.2, h.1⟩, fun h => ⟨h.2, h.1⟩⟩
theorem cntP_split (P Q : Nat → Prop) (N : Nat) : cntP P N = cntP (fun i => P i ∧ Q i) N + cntP (fun i => P i ∧ ¬ Q i) N := by
  induction N with
  | zero => rfl
  | succ N ih =>
    simp only [cntP]
    by_cases p : P N <;> by_cases q : Q N
    · rw [if_pos p, if_pos ⟨p, q⟩, if_neg (fun h => h.2 q)]; omega
    · rw [if_pos p, if_neg (fun h => q h.2), if_pos ⟨p, q⟩]; omega
    · rw [if_neg p, if_neg (fun h => p h.1), if_neg (fun h => p h.1)]; omega
    · rw [if_neg p, if_neg (fun h => p h.1), if_neg (fun h => p h.1)]; omega
/-! ### turned -/
theorem bo_lt2 {n i : Nat} (h : i < 2 * n) : bo n i < 2 * n := by unfold bo; split <;> omega
/-- left and right exchanged, along the border: the border is gone the other way, from another point on -/
def sg (n x : Nat) : Nat := if x < n then n - 1 - x else 3 * n - 1 - x
end Go.Proofs.Ytjfkompfkgjdaaa.G
end
section
/- What of a diagram stays in its products, and that brackets determine a diagram: plain. -/
namespace Go.Proofs.Ytjfkompfkgjdaaa.G
theorem upper_stay {n : Nat} {a b : Nat → Nat} (ha : Mat n a) (hb : Mat n b) {i : Nat} (hi : i < n) (c : a i < n) : prod n a b i = a i := by
  have e : jn n a b i = a i := jn_lo (by omega)
  have p := Path.out (σ := jn n a b) (l := mids n) i (by rw [e]; intro q; have := mids_pts.1 q; omega)
  rw [e] at p
  have := prod_path ha hb (p := i) (q := a i) (by omega) (by unfold emb; rw [if_pos hi]; exact p)
  unfold une at this
  rw [if_pos (by omega)] at this
  exact this.symm
/-- the brackets tell which point each closing one closes -/
theorem close_det {N : Nat} {D E : Nat → Nat} (hD : PairN N D) (hE : PairN N E) (nD : NCD N D) (nE : NCD N E) (h : ∀ x, x < N → (D x < x ↔ E x < x)) (d : Nat) :
    ∀ (x : Nat) (st : List Nat), x + d = N → Stay N D x st → Stay N E x st → ∀ y, x ≤ y → y < N → D y < y → D y = E y := by
  induction d with
  | zero => intro x st hx _ _ y h1 h2; omega
  | succ d ih =>
    intro x st hx s1 s2 y h1 h2 hy
    have hh := h x (by omega)
    rcases open_step hD nD (by omega : x < N) s1 with ⟨c, st', e, g⟩ | ⟨c, _, g⟩
    · rcases open_step hE nE (by omega : x < N) s2 with ⟨c', st2, e', g'⟩ | ⟨c', _, g'⟩
      · rw [e] at e'
        injection e' with q1 q2
        subst q2
        by_cases z : y = x
        · rw [z]; exact q1
        · exact ih (x + 1) st' (by omega) g g' y (by omega) h2 hy
      · omega
    · rcases open_step hE nE (by omega : x < N) s2 with ⟨c', st2, e', g'⟩ | ⟨c', _, g'⟩
      · omega
      · by_cases z : y = x
        · subst z; omega
        · exact ih (x + 1) _ (by omega) g g' y (by omega) h2 hy
theorem brackets_det {N : Nat} {D E : Nat → Nat} (hD : PairN N D) (hE : PairN N E) (nD : NCD N D) (nE : NCD N E) (h : ∀ x, x < N → (D x < x ↔ E x < x)) : ∀ x, x < N → D x = E x := by
  have s0 : ∀ D, Stay N D 0 [] := fun D => ⟨trivial, fun z => ⟨fun hz => (by cases hz), fun hz => (by omega)⟩⟩
  have cl := close_det hD hE nD nE h N 0 [] (by omega) (s0 D) (s0 E)
  intro x hx
  have d1 := hD x hx
  by_cases c : D x < x
  · exact cl x (by omega) hx c
  · have q := cl (D x) (by omega) d1.1 (by rw [d1.2.2]; omega)
    rw [d1.2.2] at q
    have := (hE (D x) d1.1).2.2
    rw [← q] at this
    exact this.symm
end Go.Proofs.Ytjfkompfkgjdaaa.G
end
section
namespace Go.Proofs.Ytjfkompfkgjdaaa.PC
open Go.RowKit Go.Proofs.YtjfkompfkgjdaaaW.PrintWords Go.Proofs.YtjfkompfkgjdaaaW.PrintLast Go.Proofs.YtjfkompfkgjdaaaW.PrintMore
attribute [local go_sem] max2_int min2_int max_two min_two max_three min_three max_four min_four   -- for this text's walks alone
set_option linter.unusedVariables false
set_option linter.unusedSimpArgs false
end Go.Proofs.Ytjfkompfkgjdaaa.PC
end
section
namespace Go.Proofs.Ytjfkompfkgjdaaa.PC
open Go.RowKit Go.Proofs.YtjfkompfkgjdaaaW.PrintWords Go.Proofs.YtjfkompfkgjdaaaW.PrintLast Go.Proofs.YtjfkompfkgjdaaaW.PrintMore
attribute [local go_sem] max2_int min2_int max_two min_two max_three min_three max_four min_four   -- for this text's walks alone
set_option linter.unusedVariables false
set_option linter.unusedSimpArgs false
end Go.Proofs.Ytjfkompfkgjdaaa.PC
end
section
/- The powers of a diagram, by the program and by the specification. -/
namespace Go.Proofs.Ytjfkompfkgjdaaa.L
open Go.RowKit Go.Proofs.Ytjfkompfkgjdaaa.PC Go.Proofs.YtjfkompfkgjdaaaW.PrintWords Go.Proofs.YtjfkompfkgjdaaaW.PrintLast Go.Proofs.Ytjfkompfkgjdaaa.G
/-! ### the same numbers -/
theorem eq_l0 {a b : List Int} (ha : a.length ≤ 1000000) (hl : a.length = b.length) (d : Nat) : ∀ i : Nat, i + d = a.length → (∀ z : Nat, z < i → rd a (z : Int) = rd b (z : Int)) →
    Ev (fun k => plait_diagram_int_69.l0 k a b (a.length : Int) (i : Int)) (decide (a = b)) := by
  induction d with
  | zero =>
    intro i hi h
    have e : a = b := list_eq hl (fun z hz => h z (by omega))
    refine Ev.step (f := fun _ => some (decide (a = b))) (fun k => ?_) (Ev.now _)
    simp only [plait_diagram_int_69.l0]
    rw [if_neg (by omega), decide_eq_true e]
  | succ d ih =>
    intro i hi h
    by_cases c : rd a (i : Int) = rd b (i : Int)
    · refine Ev.step (fun k => ?_) (ih (i + 1) (by omega) (fun z hz => by
        by_cases q : z = i
        · subst q; exact c
        · exact h z (by omega)))
      simp only [plait_diagram_int_69.l0]
      rw [if_pos (by omega), if_pos (by omega), if_pos (by omega), if_pos (by omega), if_pos c, pw64 (by omega) (by omega)]
      rfl
    · have e : a ≠ b := fun e => c (by rw [e])
      refine Ev.step (f := fun _ => some (decide (a = b))) (fun k => ?_) (Ev.now _)
      simp only [plait_diagram_int_69.l0]
      rw [if_pos (by omega), if_pos (by omega), if_pos (by omega), if_pos (by omega), if_neg c, decide_eq_false e]
theorem eq_ev {a b : List Int} (ha : a.length ≤ 1000000) (hl : a.length = b.length) : Ev (fun k => plait_diagram_int_69.f k a b) (decide (a = b)) := by
  refine Ev.congr (fun k => ?_) (eq_l0 ha hl a.length 0 (by omega) (fun z hz => by omega))
  unfold plait_diagram_int_69.f
  rw [if_pos (by omega)]
  rfl
theorem refsame_l0 {a b : List Int} (ha : a.length ≤ 1000000) (hl : a.length = b.length) (d : Nat) : ∀ i : Nat, i + d = a.length → (∀ z : Nat, z < i → rd a (z : Int) = rd b (z : Int)) →
    Ev (fun k => pomaderef07_same.l0 k a b (i : Int)) (decide (a = b)) := by
  induction d with
  | zero =>
    intro i hi h
    have e : a = b := list_eq hl (fun z hz => h z (by omega))
    refine Ev.step (f := fun k => pomaderef07_same.j1 k a b (i : Int) false) (fun k => ?_) ?_
    · simp only [pomaderef07_same.l0]
      rw [if_neg (by omega)]
    · refine Ev.step (f := fun _ => some (decide (a = b))) (fun k => ?_) (Ev.now _)
      simp only [pomaderef07_same.j1]
      rw [if_neg (by decide), decide_eq_true e, beq_iff_eq.2 (by omega)]
  | succ d ih =>
    intro i hi h
    refine Ev.step (f := fun k => pomaderef07_same.j1 k a b (i : Int) true) (fun k => ?_) ?_
    · simp only [pomaderef07_same.l0]
      rw [if_pos (by omega), decide_eq_true (by omega)]
    by_cases c : rd a (i : Int) = rd b (i : Int)
    · refine Ev.step (fun k => ?_) (ih (i + 1) (by omega) (fun z hz => by
        by_cases q : z = i
        · subst q; exact c
        · exact h z (by omega)))
      simp only [pomaderef07_same.j1]
      rw [if_pos trivial, if_pos (by omega), if_pos (by omega), if_pos (by omega), if_pos c, pw64 (by omega) (by omega)]
      rfl
    · have e : a ≠ b := fun e => c (by rw [e])
      refine Ev.step (f := fun _ => some (decide (a = b))) (fun k => ?_) (Ev.now _)
      simp only [pomaderef07_same.j1]
      rw [if_pos trivial, if_pos (by omega), if_pos (by omega), if_pos (by omega), if_neg c, decide_eq_false e]
theorem refsame_ev {a b : List Int} (ha : a.length ≤ 1000000) (hl : a.length = b.length) : Ev (fun k => pomaderef07_same.f k a b) (decide (a = b)) :=
  Ev.congr (fun k => rfl) (refsame_l0 ha hl a.length 0 (by omega) (fun z hz => by omega))
/-! ### powers -/
theorem dia_brk {n : Nat} {a b : List Int} (ha : Dia n a) (hb : Dia n b) (h : ∀ x, x < 2 * n → (Db n a x < x ↔ Db n b x < x)) : a = b := by
  refine lm_eq ha.lm hb.lm (fun z hz => ?_)
  have := brackets_det (db_pair ha.lm) (db_pair hb.lm) ha.nc hb.nc h (L.bo n z) (L.bo_lt hz)
  unfold Db at this
  rw [L.bo_bo hz] at this
  exact L.bo_inj (ha.lm.mat z hz).1 (hb.lm.mat z hz).1 this
end Go.Proofs.Ytjfkompfkgjdaaa.L
end
section
/- slices.ContainsFunc over a slice of ints, with a closure over one boxed variable: a contract for every such closure. -/
namespace Go.Proofs.Ytjfkompfkgjdaaa.PC
open Go.RowKit Go.Proofs.YtjfkompfkgjdaaaW.PrintWords Go.Proofs.YtjfkompfkgjdaaaW.PrintLast Go.Proofs.YtjfkompfkgjdaaaW.PrintMore
/-- what a closure over one boxed variable tells -/
def Lit (f : Nat) (v : Value) (p : Int → Bool) (w : World) : Prop := ∀ (nd : Nat) (x : Int) (b : Bool), p x = b → Calls Try.prog f #[.int .i64 x, v] (w.drewN nd) fun e w' => e = .returned (.bool b) ∧ Drawn0 (w.drewN nd) w'
end Go.Proofs.Ytjfkompfkgjdaaa.PC
end
section
namespace Go.Proofs.Ytjfkompfkgjdaaa.PC
open Go.RowKit Go.Proofs.YtjfkompfkgjdaaaW.PrintWords Go.Proofs.YtjfkompfkgjdaaaW.PrintLast Go.Proofs.YtjfkompfkgjdaaaW.PrintMore
attribute [local go_sem] max2_int min2_int max_two min_two max_three min_three max_four min_four   -- for this text's walks alone
set_option linter.unusedVariables false
set_option linter.unusedSimpArgs false
end Go.Proofs.Ytjfkompfkgjdaaa.PC
end
section
namespace Go.Proofs.Ytjfkompfkgjdaaa.PC
open Go.RowKit Go.Proofs.YtjfkompfkgjdaaaW.PrintWords Go.Proofs.YtjfkompfkgjdaaaW.PrintLast Go.Proofs.YtjfkompfkgjdaaaW.PrintMore
attribute [local go_sem] max2_int min2_int max_two min_two max_three min_three max_four min_four   -- for this text's walks alone
set_option linter.unusedVariables false
set_option linter.unusedSimpArgs false
end Go.Proofs.Ytjfkompfkgjdaaa.PC
end
section
/- The hooks and their products, by the program and by the specification. -/
namespace Go.Proofs.Ytjfkompfkgjdaaa.L
open Go.RowKit Go.Proofs.Ytjfkompfkgjdaaa.PC Go.Proofs.YtjfkompfkgjdaaaW.PrintWords Go.Proofs.YtjfkompfkgjdaaaW.PrintLast Go.Proofs.Ytjfkompfkgjdaaa.G
/-! ### the hooks -/
def hkf (n i z : Nat) : Nat := if z = n + i + 1 then n + i else if z = n + i then n + i + 1 else if z = i + 1 then i else if z = i then i + 1 else idf n z
def hkL (n i : Nat) : List Int := ((((idL n).set i ((i + 1 : Nat) : Int)).set (i + 1) (i : Int)).set (n + i) ((n + i + 1 : Nat) : Int)).set (n + i + 1) ((n + i : Nat) : Int)
theorem hkf_mat {n i : Nat} (h : i + 1 < n) : Mat n (hkf n i) := by
  intro z hz
  unfold hkf idf
  refine ⟨?_, ?_, ?_⟩
  · repeat' split
    all_goals omega
  · repeat' split
    all_goals omega
  · repeat' split
    all_goals omega
theorem hkL_len (n i : Nat) : (hkL n i).length = 2 * n := by simp [hkL, idL_len]
theorem hkL_rd {n i z : Nat} (h : i + 1 < n) (hz : z < 2 * n) : rd (hkL n i) (z : Int) = (hkf n i z : Int) := by
  have l := idL_len n
  unfold hkL
  rw [rd_set _ _ _ _ (by simp; omega), rd_set _ _ _ _ (by simp; omega), rd_set _ _ _ _ (by simp; omega), rd_set _ _ _ _ (by omega), idL_rd hz]
  unfold hkf
  split
  · rfl
  · split
    · rfl
    · split
      · rfl
      · split <;> rfl
theorem hkL_lm {n i : Nat} (h : i + 1 < n) : LM n (hkL n i) ∧ ∀ z, z < 2 * n → fn (hkL n i) z = hkf n i z := lm_of_fun (hkL_len n i) (fun z hz => hkL_rd h hz) (hkf_mat h)
theorem hook_ev {n i : Nat} (hn : n ≤ 1000) (h : i + 1 < n) : Ev (fun k => plait_hook.f k (n : Int) (i : Int)) (hkL n i) := by
  have l := idL_len n
  refine Ev.congr (fun k => rfl) (Ev.bind (identity_ev hn) (Ev.congr (fun k => ?_) (Ev.now _)))
  have a1 : wrap64 ((i : Int) + 1) = ((i + 1 : Nat) : Int) := by rw [pw64 (by omega) (by omega)]; omega
  have a2 : wrap64 ((n : Int) + (i : Int)) = ((n + i : Nat) : Int) := by rw [pw64 (by omega) (by omega)]; omega
  have a3 : wrap64 (((n + i : Nat) : Int) + 1) = ((n + i + 1 : Nat) : Int) := by rw [pw64 (by omega) (by omega)]; omega
  rw [a1, a2, a3, if_pos (by omega), if_pos (by omega), if_pos (by omega), if_pos (by omega), if_pos (by omega), if_pos (by omega), if_pos (by omega), if_pos (by omega)]
  rfl
theorem refhook_ev {n i : Nat} (hn : n ≤ 1000) (h : i + 1 < n) : Ev (fun k => pomaderef07_Hook.f k (n : Int) (i : Int)) (hkL n i) := by
  have l := idL_len n
  refine Ev.congr (fun k => rfl) (Ev.bind (refidentity_ev hn) (Ev.congr (fun k => ?_) (Ev.now _)))
  have a1 : wrap64 ((i : Int) + 1) = ((i + 1 : Nat) : Int) := by rw [pw64 (by omega) (by omega)]; omega
  have a2 : wrap64 ((n : Int) + (i : Int)) = ((n + i : Nat) : Int) := by rw [pw64 (by omega) (by omega)]; omega
  have a3 : wrap64 (((n + i : Nat) : Int) + 1) = ((n + i + 1 : Nat) : Int) := by rw [pw64 (by omega) (by omega)]; omega
  rw [a1, a2, a3, if_pos (by omega), if_pos (by omega), if_pos (by omega), if_pos (by omega), if_pos (by omega), if_pos (by omega), if_pos (by omega), if_pos (by omega)]
  rfl
/-! ### their products -/
def okW (n : Nat) (w : List Int) : Prop := ∀ j : Nat, j < w.length → 0 ≤ rd w (j : Int) ∧ rd w (j : Int) ≤ (n : Int) - 2
theorem okW.at {n : Nat} {w : List Int} (h : okW n w) {j : Nat} (hj : j < w.length) : ∃ i : Nat, rd w (j : Int) = (i : Int) ∧ i + 1 < n := by
  have := h j hj
  exact ⟨(rd w (j : Int)).toNat, by omega, by omega⟩
end Go.Proofs.Ytjfkompfkgjdaaa.L
end
section
/- A hook on top of a diagram, arches opened, and heights: plain. -/
namespace Go.Proofs.Ytjfkompfkgjdaaa.G
/-! ### a hook on top -/
def hk (n i z : Nat) : Nat := if z = n + i + 1 then n + i else if z = n + i then n + i + 1 else if z = i + 1 then i else if z = i then i + 1 else idf n z
theorem hk_mat {n i : Nat} (h : i + 1 < n) : Mat n (hk n i) := by
  intro z hz
  unfold hk idf
  refine ⟨?_, ?_, ?_⟩
  · repeat' split
    all_goals omega
  · repeat' split
    all_goals omega
  · repeat' split
    all_goals omega
theorem hk_lo {n i m : Nat} (h : i + 1 < n) (hm : m < n) (h1 : m ≠ i) (h2 : m ≠ i + 1) : hk n i m = n + m ∧ hk n i (n + m) = m := by
  unfold hk idf
  rw [if_neg (by omega), if_neg (by omega), if_neg (by omega), if_neg (by omega), if_pos hm, if_neg (by omega), if_neg (by omega), if_neg (by omega), if_neg (by omega), if_neg (by omega)]
  omega
theorem hk_at {n i : Nat} (h : i + 1 < n) : hk n i i = i + 1 ∧ hk n i (i + 1) = i ∧ hk n i (n + i) = n + i + 1 ∧ hk n i (n + i + 1) = n + i := by
  unfold hk
  refine ⟨?_, ?_, ?_, ?_⟩
  · rw [if_neg (by omega), if_neg (by omega), if_neg (by omega), if_pos rfl]
  · rw [if_neg (by omega), if_neg (by omega), if_pos rfl]
  · rw [if_neg (by omega), if_pos rfl]
  · rw [if_pos rfl]
/-- what a hook on top makes -/
def tl (i : Nat) (o : Nat → Nat) (z : Nat) : Nat := if z = i then i + 1 else if z = i + 1 then i else if o z = i then o (i + 1) else if o z = i + 1 then o i else o z
theorem tl_prod {n i : Nat} {o : Nat → Nat} (ho : Mat n o) (hi : i + 1 < n) {z : Nat} (hz : z < 2 * n) : prod n (hk n i) o z = tl i o z := by
  have hm := hk_mat hi
  have out : ∀ z, z < n ∨ 3 * n ≤ z → ¬ pts (mids n) z := fun z h e => by have := mids_pts.1 e; omega
  have inn : ∀ z, n ≤ z → z < 3 * n → pts (mids n) z := fun z h1 h2 => mids_pts.2 ⟨h1, h2⟩
  have hat := hk_at hi
  have A : ∀ y, y < 2 * n → o y ≠ i → o y ≠ i + 1 → ∃ q, Path (jn n (hk n i) o) (mids n) (2 * n + y) q ∧ une n q = o y := by
    intro y hy h1 h2
    have hy2 := (ho y hy).1
    have e : jn n (hk n i) o (2 * n + y) = 2 * n + o y := jn_hi hy
    by_cases c : o y < n
    · have e2 : jn n (hk n i) o (n + o y) = o y := by rw [jn_lo (by omega), (hk_lo hi c h1 h2).2]
      refine ⟨o y, .via _ _ (by rw [e]; exact inn _ (by omega) (by omega)) ?_, by unfold une; rw [if_pos c]⟩
      rw [e, (tau_up hm ho c).2]
      have := Path.out (σ := jn n (hk n i) o) (l := mids n) (n + o y) (by rw [e2]; exact out _ (.inl c))
      rwa [e2] at this
    · have := Path.out (σ := jn n (hk n i) o) (l := mids n) (2 * n + y) (by rw [e]; exact out _ (.inr (by omega)))
      rw [e] at this
      exact ⟨_, this, by unfold une; rw [if_neg (by omega)]; omega⟩
  have oi := ho i (by omega)
  have oj := ho (i + 1) (by omega)
  have B : ∀ y, y < 2 * n → y ≠ i → y ≠ i + 1 → ∃ q, Path (jn n (hk n i) o) (mids n) (2 * n + y) q ∧ une n q = tl i o y := by
    intro y hy h1 h2
    have oy := ho y hy
    have e : jn n (hk n i) o (2 * n + y) = 2 * n + o y := jn_hi hy
    unfold tl
    rw [if_neg h1, if_neg h2]
    by_cases c1 : o y = i
    · rw [if_pos c1]
      have ei : o i = y := by rw [← c1]; exact oy.2.2
      obtain ⟨q, p1, p2⟩ := A (i + 1) (by omega) (fun f => by rw [f] at oj; omega) oj.2.1
      refine ⟨q, .via _ _ (by rw [e]; exact inn _ (by omega) (by omega)) ?_, p2⟩
      rw [e, c1, (tau_up hm ho (by omega)).2]
      have e2 : jn n (hk n i) o (n + i) = n + i + 1 := by rw [jn_lo (by omega), hat.2.2.1]
      refine .via _ _ (by rw [e2]; exact inn _ (by omega) (by omega)) ?_
      rw [e2, show n + i + 1 = n + (i + 1) by omega, (tau_up hm ho (by omega)).1]
      exact p1
    · rw [if_neg c1]
      by_cases c2 : o y = i + 1
      · rw [if_pos c2]
        have ej : o (i + 1) = y := by rw [← c2]; exact oy.2.2
        obtain ⟨q, p1, p2⟩ := A i (by omega) oi.2.1 (fun f => by rw [f] at oi; omega)
        refine ⟨q, .via _ _ (by rw [e]; exact inn _ (by omega) (by omega)) ?_, p2⟩
        rw [e, c2, (tau_up hm ho (by omega)).2]
        have e2 : jn n (hk n i) o (n + (i + 1)) = n + i := by rw [jn_lo (by omega), show n + (i + 1) = n + i + 1 by omega, hat.2.2.2]
        refine .via _ _ (by rw [e2]; exact inn _ (by omega) (by omega)) ?_
        rw [e2, (tau_up hm ho (by omega)).1]
        exact p1
      · rw [if_neg c2]
        exact A y hy c1 c2
  by_cases c : z < n
  · by_cases c1 : z = i
    · subst c1
      rw [upper_stay hm ho c (by rw [hat.1]; omega), hat.1]
      unfold tl; rw [if_pos rfl]
    · by_cases c2 : z = i + 1
      · subst c2
        rw [upper_stay hm ho c (by rw [hat.2.1]; omega), hat.2.1]
        unfold tl; rw [if_neg (by omega), if_pos rfl]
      · obtain ⟨q, p1, p2⟩ := B z hz c1 c2
        have e : jn n (hk n i) o z = n + z := by rw [jn_lo hz, (hk_lo hi c c1 c2).1]
        have h3 : Path (jn n (hk n i) o) (mids n) (emb n z) q := by
          have : emb n z = z := by unfold emb; rw [if_pos c]
          rw [this]
          refine .via _ _ (by rw [e]; exact inn _ (by omega) (by omega)) ?_
          rw [e, (tau_up hm ho c).1]
          exact p1
        rw [← prod_path hm ho hz h3, p2]
  · obtain ⟨q, p1, p2⟩ := B z hz (by omega) (by omega)
    have h3 : Path (jn n (hk n i) o) (mids n) (emb n z) q := by
      have : emb n z = 2 * n + z := by unfold emb; rw [if_neg c]; omega
      rw [this]; exact p1
    rw [← prod_path hm ho hz h3, p2]
theorem tl_lops {n i : Nat} {o : Nat → Nat} (ho : Mat n o) (hi : i + 1 < n) (h : o i ≠ i + 1) : lops n (hk n i) o = 0 := by
  have hm := hk_mat hi
  have oi := ho i (by omega)
  have oj := ho (i + 1) (by omega)
  have oj2 : o (i + 1) ≠ i := fun f => by rw [f] at oj; omega
  rw [lops_fst hm ho]
  refine cntP_none n (fun m hmn hf => ?_)
  have hc := hf.1.2
  have step : ∀ m, m < n → m ≠ i → m ≠ i + 1 → ∀ x, Conn (jn n (hk n i) o) (tau (mids n)) x (n + m) → Conn (jn n (hk n i) o) (tau (mids n)) x m := by
    intro m hmn h1 h2 x hx
    have c := Conn.s _ hx
    rwa [jn_lo (by omega), (hk_lo hi hmn h1 h2).2] at c
  have go : ∀ m, m < n → o m ≠ i → o m ≠ i + 1 → ∃ z, Conn (jn n (hk n i) o) (tau (mids n)) (n + m) z ∧ ¬ pts (mids n) z := by
    intro m hmn h1 h2
    have om := ho m (by omega)
    have c := Conn.s _ (Conn.t (σ := jn n (hk n i) o) (τ := tau (mids n)) (x := n + m) _ .refl)
    rw [(tau_up hm ho hmn).1, jn_hi (by omega)] at c
    by_cases q : o m < n
    · have c2 := Conn.t _ c
      rw [(tau_up hm ho q).2] at c2
      exact ⟨o m, step _ q h1 h2 _ c2, fun e => by have := mids_pts.1 e; omega⟩
    · exact ⟨_, c, fun e => by have := mids_pts.1 e; omega⟩
  by_cases c1 : m = i
  · subst c1
    obtain ⟨z, z1, z2⟩ := go m hmn oi.2.1 h
    exact z2 (hc z z1)
  · by_cases c2 : m = i + 1
    · subst c2
      obtain ⟨z, z1, z2⟩ := go (i + 1) hmn oj2 oj.2.1
      exact z2 (hc z z1)
    · have := hc m (step m hmn c1 c2 _ .refl)
      have := mids_pts.1 this
      omega
/-! ### an arch opened -/
def pull (d : Nat → Nat) (i p q z : Nat) : Nat := if z = i then p else if z = i + 1 then q else if z = p then i else if z = q then i + 1 else d z
/-- right of the line between i and i + 1 -/
def Rt (n i z : Nat) : Prop := i + 1 ≤ bo n z ∧ bo n z + i + 2 ≤ 2 * n
theorem bo_val {n z : Nat} (h : z < n) : bo n z = z := by unfold bo; rw [if_pos h]
theorem bo_inj2 {n a b : Nat} (ha : a < 2 * n) (hb : b < 2 * n) (h : bo n a = bo n b) : a = b := by
  unfold bo at h
  by_cases c : a < n <;> by_cases c2 : b < n <;> simp only [c, c2, if_true, if_false] at h <;> omega
theorem opn_mat {n i p q : Nat} {d : Nat → Nat} (hd : Mat n d) (hi : i + 1 < n) (hp : p < 2 * n) (h1 : p ≠ i) (h2 : p ≠ i + 1) (hpq : d p = q) (hc : d i = i + 1) : Mat n (pull d i p q) := by
  have dp := hd p hp
  rw [hpq] at dp
  have di := hd i (by omega)
  rw [hc] at di
  have q1 : q ≠ i := fun e => by rw [e] at dp; omega
  have q2 : q ≠ i + 1 := fun e => by rw [e] at dp; omega
  intro z hz
  have dz := hd z hz
  have other : z ≠ i → z ≠ i + 1 → z ≠ p → z ≠ q → d z ≠ i ∧ d z ≠ i + 1 ∧ d z ≠ p ∧ d z ≠ q := fun a b c e =>
    ⟨fun f => by rw [f] at dz; omega, fun f => by rw [f] at dz; omega, fun f => by rw [f] at dz; omega, fun f => by rw [f] at dz; omega⟩
  unfold pull
  by_cases c1 : z = i
  · rw [if_pos c1, if_neg h1, if_neg h2, if_pos rfl]; omega
  · rw [if_neg c1]
    by_cases c2 : z = i + 1
    · rw [if_pos c2, if_neg q1, if_neg q2, if_neg (by omega), if_pos rfl]; omega
    · rw [if_neg c2]
      by_cases c3 : z = p
      · rw [if_pos c3, if_pos rfl]; omega
      · rw [if_neg c3]
        by_cases c4 : z = q
        · rw [if_pos c4, if_neg (by omega), if_pos rfl]; omega
        · rw [if_neg c4]
          have o := other c1 c2 c3 c4
          rw [if_neg o.1, if_neg o.2.1, if_neg o.2.2.1, if_neg o.2.2.2]
          exact dz
set_option maxHeartbeats 1000000 in
theorem opn_nc {n i p q : Nat} {d : Nat → Nat} (hd : Mat n d) (hn : NCf n d) (hi : i + 1 < n) (hc : d i = i + 1) (hp : p < 2 * n) (hpq : d p = q) (h1 : p ≠ i) (hL : ¬ Rt n i p) (hR : Rt n i q)
    (hmin : ∀ z, z < 2 * n → i + 1 < bo n z → bo n z < bo n q → Rt n i (d z)) : NCf n (pull d i p q) := by
  have dp := hd p hp
  rw [hpq] at dp
  have di := hd i (by omega)
  rw [hc] at di
  have bi : bo n i = i := bo_val (by omega)
  have bj : bo n (i + 1) = i + 1 := bo_val (by omega)
  have p2 : p ≠ i + 1 := fun e => hL (by rw [e]; unfold Rt; rw [bj]; omega)
  have q1 : q ≠ i := fun e => by rw [e] at dp; omega
  have q2 : q ≠ i + 1 := fun e => by rw [e] at dp; omega
  unfold Rt at hL hR
  have bpi : bo n p ≠ i := fun e => h1 (bo_inj2 hp (by omega) (by rw [e, bi]))
  have bpj : bo n p ≠ i + 1 := fun e => p2 (bo_inj2 hp (by omega) (by rw [e, bj]))
  have bqj : bo n q ≠ i + 1 := fun e => q2 (bo_inj2 dp.1 (by omega) (by rw [e, bj]))
  have bp := bo_lt2 hp
  have bq := bo_lt2 dp.1
  have o1 : pull d i p q i = p := if_pos rfl
  have o2 : pull d i p q (i + 1) = q := by unfold pull; rw [if_neg (by omega), if_pos rfl]
  have o3 : pull d i p q p = i := by unfold pull; rw [if_neg h1, if_neg p2, if_pos rfl]
  have o4 : pull d i p q q = i + 1 := by unfold pull; rw [if_neg q1, if_neg q2, if_neg (by omega), if_pos rfl]
  have o5 : ∀ z, z ≠ i → z ≠ i + 1 → z ≠ p → z ≠ q → pull d i p q z = d z := fun z a b c e => by
    unfold pull; rw [if_neg a, if_neg b, if_neg c, if_neg e]
  have cases4 : ∀ z, z = i ∨ z = i + 1 ∨ z = p ∨ z = q ∨ (z ≠ i ∧ z ≠ i + 1 ∧ z ≠ p ∧ z ≠ q) := fun z => by omega
  -- what an arc that stays tells
  have key : ∀ z, z < 2 * n → z ≠ i → z ≠ i + 1 → z ≠ p → z ≠ q →
      ¬ (i + 1 < bo n z ∧ bo n z < bo n q ∧ (bo n (d z) < i + 1 ∨ bo n q < bo n (d z))) ∧
      ¬ (bo n p < bo n z ∧ bo n z < i ∧ (bo n (d z) < bo n p ∨ i < bo n (d z))) ∧
      ¬ (i < bo n z ∧ bo n z < bo n p ∧ (bo n (d z) < i ∨ bo n p < bo n (d z))) ∧ bo n z ≠ i ∧ bo n z ≠ i + 1 ∧ bo n z ≠ bo n p ∧ bo n z ≠ bo n q ∧ bo n z ≠ bo n (d z) := by
    intro z hz a b c e
    have dz := hd z hz
    have z1 : bo n z ≠ i := fun f => a (bo_inj2 hz (by omega) (by rw [f, bi]))
    have z2 : bo n z ≠ i + 1 := fun f => b (bo_inj2 hz (by omega) (by rw [f, bj]))
    have z3 : bo n z ≠ bo n p := fun f => c (bo_inj2 hz hp f)
    have z4 : bo n z ≠ bo n q := fun f => e (bo_inj2 hz dp.1 f)
    have z5 : bo n z ≠ bo n (d z) := fun f => dz.2.1 (bo_inj2 hz dz.1 f).symm
    have y1 : bo n (d z) ≠ i := fun f => by
      have f := bo_inj2 dz.1 (by omega : i < 2 * n) (by rw [f, bi])
      rw [f] at dz; omega
    have y2 : bo n (d z) ≠ i + 1 := fun f => by
      have f := bo_inj2 dz.1 (by omega : i + 1 < 2 * n) (by rw [f, bj])
      rw [f] at dz; omega
    have y3 : bo n (d z) ≠ bo n p := fun f => by
      have f := bo_inj2 dz.1 hp f
      rw [f] at dz; omega
    have y4 : bo n (d z) ≠ bo n q := fun f => by
      have f := bo_inj2 dz.1 dp.1 f
      rw [f] at dz; omega
    have m1 := hmin z hz
    have m2 := hmin (d z) dz.1
    have bz := bo_lt2 hz
    have bdz := bo_lt2 dz.1
    rw [dz.2.2] at m2
    unfold Rt at m1 m2
    have n2 := hn p z hp hz
    rw [hpq] at n2
    have n3 := hn z q hz dp.1
    rw [dp.2.2] at n3
    have n4 := hn q z dp.1 hz
    rw [dp.2.2] at n4
    have n5 := hn (d z) p dz.1 hp
    rw [dz.2.2, hpq] at n5
    have n7 := hn (d z) q dz.1 dp.1
    rw [dz.2.2, dp.2.2] at n7
    clear hmin hn
    generalize bo n z = Z at *
    generalize bo n (d z) = Y at *
    generalize bo n p = P at *
    generalize bo n q = Q at *
    refine ⟨?_, ?_, ?_, z1, z2, z3, z4, z5⟩
    · clear n4 n5 n7 m2; omega
    · clear n3 n4 n7 m1; omega
    · clear n2 n3 n5 m2; omega
  intro u v hu hv hcr
  have du := hd u hu
  have dv := hd v hv
  have su : u ≠ i → u ≠ i + 1 → u ≠ p → u ≠ q → d u ≠ i ∧ d u ≠ i + 1 ∧ d u ≠ p ∧ d u ≠ q := fun a b c e =>
    ⟨fun f => by rw [f] at du; omega, fun f => by rw [f] at du; omega, fun f => by rw [f] at du; omega, fun f => by rw [f] at du; omega⟩
  have sv : v ≠ i → v ≠ i + 1 → v ≠ p → v ≠ q → d v ≠ i ∧ d v ≠ i + 1 ∧ d v ≠ p ∧ d v ≠ q := fun a b c e =>
    ⟨fun f => by rw [f] at dv; omega, fun f => by rw [f] at dv; omega, fun f => by rw [f] at dv; omega, fun f => by rw [f] at dv; omega⟩
  have ku := key u hu
  have kv := key v hv
  have kdu := key (d u) du.1
  have kdv := key (d v) dv.1
  rw [du.2.2] at kdu
  rw [dv.2.2] at kdv
  have nn := hn u v hu hv
  clear key hmin hn hd
  rcases cases4 u with a | a | a | a | ⟨a1, a2, a3, a4⟩
  · rcases cases4 v with b | b | b | b | ⟨b1, b2, b3, b4⟩
    · rw [a, b] at hcr; exact absurd hcr.1 (Nat.lt_irrefl _)
    · rw [a, b, o1, o2, bi, bj] at hcr; clear ku kv kdu kdv su sv nn o5 cases4 dp di du dv; omega
    · rw [a, b, o1, o3, bi] at hcr; exact absurd hcr.2.1 (Nat.lt_irrefl _)
    · rw [a, b, o1, o4, bi, bj] at hcr; clear ku kv kdu kdv su sv nn o5 cases4 dp di du dv; omega
    · rw [a, o1, o5 v b1 b2 b3 b4, bi] at hcr
      exact (kv b1 b2 b3 b4).2.2.1 ⟨hcr.1, hcr.2.1, .inr hcr.2.2⟩
  · rcases cases4 v with b | b | b | b | ⟨b1, b2, b3, b4⟩
    · rw [a, b, o1, o2, bi, bj] at hcr; clear ku kv kdu kdv su sv nn o5 cases4 dp di du dv; omega
    · rw [a, b] at hcr; exact absurd hcr.1 (Nat.lt_irrefl _)
    · rw [a, b, o2, o3, bi, bj] at hcr; clear ku kv kdu kdv su sv nn o5 cases4 dp di du dv; omega
    · rw [a, b, o2, o4, bj] at hcr; exact absurd hcr.2.1 (Nat.lt_irrefl _)
    · rw [a, o2, o5 v b1 b2 b3 b4, bj] at hcr
      exact (kv b1 b2 b3 b4).1 ⟨hcr.1, hcr.2.1, .inr hcr.2.2⟩
  · rcases cases4 v with b | b | b | b | ⟨b1, b2, b3, b4⟩
    · rw [a, b, o3, o1, bi] at hcr; exact absurd hcr.2.1 (Nat.lt_irrefl _)
    · rw [a, b, o3, o2, bi, bj] at hcr; clear ku kv kdu kdv su sv nn o5 cases4 dp di du dv; omega
    · rw [a, b] at hcr; exact absurd hcr.1 (Nat.lt_irrefl _)
    · rw [a, b, o3, o4, bi, bj] at hcr; clear ku kv kdu kdv su sv nn o5 cases4 dp di du dv; omega
    · rw [a, o3, o5 v b1 b2 b3 b4, bi] at hcr
      exact (kv b1 b2 b3 b4).2.1 ⟨hcr.1, hcr.2.1, .inr hcr.2.2⟩
  · rcases cases4 v with b | b | b | b | ⟨b1, b2, b3, b4⟩
    · rw [a, b, o4, o1, bi, bj] at hcr; clear ku kv kdu kdv su sv nn o5 cases4 dp di du dv; omega
    · rw [a, b, o4, o2, bj] at hcr; exact absurd hcr.2.1 (Nat.lt_irrefl _)
    · rw [a, b, o4, o3, bi, bj] at hcr; clear ku kv kdu kdv su sv nn o5 cases4 dp di du dv; omega
    · rw [a, b] at hcr; exact absurd hcr.1 (Nat.lt_irrefl _)
    · rw [a, o4, o5 v b1 b2 b3 b4, bj] at hcr
      clear ku kv kdu kdv su sv nn o5 cases4 dp di du dv; omega
  · rw [o5 u a1 a2 a3 a4] at hcr
    have ss := su a1 a2 a3 a4
    have k3 := kdu ss.1 ss.2.1 ss.2.2.1 ss.2.2.2
    rcases cases4 v with b | b | b | b | ⟨b1, b2, b3, b4⟩
    · rw [b, o1, bi] at hcr
      exact k3.2.2.1 ⟨hcr.2.1, hcr.2.2, .inl hcr.1⟩
    · rw [b, o2, bj] at hcr
      exact k3.1 ⟨hcr.2.1, hcr.2.2, .inl hcr.1⟩
    · rw [b, o3, bi] at hcr
      exact k3.2.1 ⟨hcr.2.1, hcr.2.2, .inl hcr.1⟩
    · rw [b, o4, bj] at hcr
      clear ku kv kdu kdv su sv nn o5 cases4 k3 dp di du dv ss; omega
    · rw [o5 v b1 b2 b3 b4] at hcr
      exact nn hcr
theorem bo_bo2 {n z : Nat} (h : z < 2 * n) : bo n (bo n z) = z := by
  unfold bo
  by_cases c : z < n
  · rw [if_pos c, if_pos c]
  · rw [if_neg c, if_neg (by omega)]; omega
theorem open_min {n i p q : Nat} {o : Nat → Nat} (ho : Mat n o) (hn : NCf n o) (hi : i + 1 < n) (hp : o i = p) (hq : o (i + 1) = q) (hL : ¬ Rt n i p) (hR : Rt n i q) :
    ∀ z, z < 2 * n → i + 1 < bo n z → bo n z < bo n q → Rt n i (tl i o z) := by
  intro z hz h1 h2
  have bi : bo n i = i := bo_val (by omega)
  have bj : bo n (i + 1) = i + 1 := bo_val (by omega)
  have oz := ho z hz
  have oi := ho i (by omega)
  have oj := ho (i + 1) (by omega)
  have zi : z ≠ i := fun e => by rw [e, bi] at h1; omega
  have zj : z ≠ i + 1 := fun e => by rw [e, bj] at h1; omega
  have zp : z ≠ p := fun e => hL (by rw [← e]; unfold Rt at hR ⊢; omega)
  have zq : z ≠ q := fun e => by rw [e] at h2; omega
  have e1 : o z ≠ i := fun e => by rw [← e, oz.2.2] at hp; exact zp hp
  have e2 : o z ≠ i + 1 := fun e => by rw [← e, oz.2.2] at hq; exact zq hq
  have et : tl i o z = o z := by unfold tl; rw [if_neg zi, if_neg zj, if_neg e1, if_neg e2]
  rw [et]
  have n1 := hn (i + 1) z (by omega) hz
  have n2 := hn (o z) (i + 1) oz.1 (by omega)
  rw [hq, bj] at n1
  rw [oz.2.2, hq, bj] at n2
  unfold Rt at hR ⊢
  omega
theorem open_uniq {n i p q p' q' : Nat} {d : Nat → Nat} (hd : Mat n d) (hp : p < 2 * n) (hpq : d p = q) (hL : ¬ Rt n i p) (hR : Rt n i q) (hj : bo n q ≠ i + 1)
    (hmin : ∀ z, z < 2 * n → i + 1 < bo n z → bo n z < bo n q → Rt n i (d z)) (hp' : p' < 2 * n) (hpq' : d p' = q') (hL' : ¬ Rt n i p') (hR' : Rt n i q') (hj' : bo n q' ≠ i + 1)
    (hmin' : ∀ z, z < 2 * n → i + 1 < bo n z → bo n z < bo n q' → Rt n i (d z)) : p = p' ∧ q = q' := by
  have dp := hd p hp
  have dp' := hd p' hp'
  rw [hpq] at dp
  rw [hpq'] at dp'
  have e : q = q' := by
    refine bo_inj2 dp.1 dp'.1 ?_
    by_cases c : bo n q < bo n q'
    · have := hmin' q dp.1 (by unfold Rt at hR; omega) c
      rw [dp.2.2] at this; exact absurd this hL
    · by_cases c2 : bo n q' < bo n q
      · have := hmin q' dp'.1 (by unfold Rt at hR'; omega) c2
        rw [dp'.2.2] at this; exact absurd this hL'
      · omega
  subst e
  exact ⟨dp.2.2.symm.trans dp'.2.2, rfl⟩
theorem tl_opn {n i p q : Nat} {d : Nat → Nat} (hd : Mat n d) (hi : i + 1 < n) (hc : d i = i + 1) (hp : p < 2 * n) (h1 : p ≠ i) (h2 : p ≠ i + 1) (hpq : d p = q) {z : Nat} (hz : z < 2 * n) : tl i (pull d i p q) z = d z := by
  have dp := hd p hp
  rw [hpq] at dp
  have di := hd i (by omega)
  rw [hc] at di
  have q1 : q ≠ i := fun e => by rw [e] at dp; omega
  have q2 : q ≠ i + 1 := fun e => by rw [e] at dp; omega
  have dz := hd z hz
  have vi : pull d i p q i = p := if_pos rfl
  have vj : pull d i p q (i + 1) = q := by unfold pull; rw [if_neg (by omega), if_pos rfl]
  unfold tl
  rw [vi, vj]
  by_cases c1 : z = i
  · rw [if_pos c1, c1, hc]
  · by_cases c2 : z = i + 1
    · rw [if_neg c1, if_pos c2, c2, di.2.2]
    · rw [if_neg c1, if_neg c2]
      by_cases c3 : z = p
      · have : pull d i p q z = i := by unfold pull; rw [if_neg c1, if_neg c2, if_pos c3]
        rw [this, if_pos rfl, c3, hpq]
      · by_cases c4 : z = q
        · have : pull d i p q z = i + 1 := by unfold pull; rw [if_neg c1, if_neg c2, if_neg c3, if_pos c4]
          rw [this, if_neg (by omega), if_pos rfl, c4, dp.2.2]
        · have : pull d i p q z = d z := by unfold pull; rw [if_neg c1, if_neg c2, if_neg c3, if_neg c4]
          rw [this, if_neg (fun f => by rw [f] at dz; omega), if_neg (fun f => by rw [f] at dz; omega)]
theorem opn_tl {n i : Nat} {o : Nat → Nat} (ho : Mat n o) (hi : i + 1 < n) (hne : o i ≠ i + 1) {z : Nat} (hz : z < 2 * n) : pull (tl i o) i (o i) (o (i + 1)) z = o z := by
  have oi := ho i (by omega)
  have oj := ho (i + 1) (by omega)
  have oz := ho z hz
  unfold pull
  by_cases c1 : z = i
  · rw [if_pos c1, c1]
  · by_cases c2 : z = i + 1
    · rw [if_neg c1, if_pos c2, c2]
    · rw [if_neg c1, if_neg c2]
      by_cases c3 : z = o i
      · rw [if_pos c3, c3, oi.2.2]
      · by_cases c4 : z = o (i + 1)
        · rw [if_neg c3, if_pos c4, c4, oj.2.2]
        · rw [if_neg c3, if_neg c4]
          unfold tl
          rw [if_neg c1, if_neg c2, if_neg (fun f => c3 (by rw [← f, oz.2.2])), if_neg (fun f => c4 (by rw [← f, oz.2.2]))]
/-! ### there is one -/
theorem even_closed {N : Nat} {D : Nat → Nat} (hD : PairN N D) (S : Nat → Prop) (hS : ∀ x, x < N → S x → S (D x)) : ∃ k, cntP S N = 2 * k := by
  have h3 := cntP_split S (fun z => z < D z) N
  have h4 : cntP (fun i => S i ∧ ¬ i < D i) N = cntP (fun i => S i ∧ i < D i) N := by
    rw [← cntP_perm (N := N) hD (fun i => S i ∧ i < D i)]
    refine cntP_congr _ (fun z hz => ?_)
    have dz := hD z hz
    rw [dz.2.2]
    constructor
    · intro h; exact ⟨hS z hz h.1, by omega⟩
    · intro h; exact ⟨by have := hS (D z) dz.1 h.1; rwa [dz.2.2] at this, by omega⟩
  exact ⟨cntP (fun i => S i ∧ i < D i) N, by omega⟩
theorem cntP_int (a b N : Nat) : cntP (fun x => a < x ∧ x ≤ b) N = (if N ≤ b + 1 then N else b + 1) - (a + 1) := by
  induction N with
  | zero => simp [cntP]
  | succ N ih =>
    simp only [cntP]
    rw [ih]
    by_cases c : a < N ∧ N ≤ b
    · rw [if_pos c, if_pos (by omega), if_pos (by omega)]; omega
    · rw [if_neg c]
      by_cases e : N ≤ b + 1 <;> by_cases f : N + 1 ≤ b + 1 <;> simp only [e, f, if_true, if_false] <;> omega
theorem least_nat (P : Nat → Prop) : ∀ (N : Nat), P N → ∃ m, m ≤ N ∧ P m ∧ ∀ k, k < m → ¬ P k := by
  intro N
  induction N using Nat.strongRecOn with
  | ind N ih =>
    intro h
    by_cases c : ∃ k, k < N ∧ P k
    · obtain ⟨k, hk, p⟩ := c
      obtain ⟨m, h1, h2, h3⟩ := ih k hk p
      exact ⟨m, by omega, h2, h3⟩
    · exact ⟨N, Nat.le_refl _, h, fun k hk p => c ⟨k, hk, p⟩⟩
theorem bo_pair {n : Nat} {d : Nat → Nat} (hd : Mat n d) : PairN (2 * n) (fun x => bo n (d (bo n x))) := by
  intro x hx
  have b := bo_lt2 hx
  have h := hd _ b
  refine ⟨bo_lt2 h.1, fun e => h.2.1 ?_, ?_⟩
  · have := congrArg (bo n) e
    simp only at this
    rwa [bo_bo2 h.1] at this
  · simp only
    rw [bo_bo2 h.1, h.2.2, bo_bo2 hx]
theorem open_ex {n i : Nat} {d : Nat → Nat} (hd : Mat n d) (hi : i + 1 < n) (hc : d i = i + 1) : ∃ p q, p < 2 * n ∧ d p = q ∧ p ≠ i ∧ p ≠ i + 1 ∧ ¬ Rt n i p ∧ Rt n i q ∧ bo n q ≠ i + 1 ∧ ∀ z, z < 2 * n → i + 1 < bo n z → bo n z < bo n q → Rt n i (d z) := by
  have di := hd i (by omega)
  rw [hc] at di
  have bi : bo n i = i := bo_val (by omega)
  have bj : bo n (i + 1) = i + 1 := bo_val (by omega)
  have ex : ∃ x, (i + 1 < x ∧ x ≤ 2 * n - 2 - i) ∧ ¬ Rt n i (d (bo n x)) := by
    refine Classical.byContradiction fun no => ?_
    obtain ⟨k, hk⟩ := even_closed (bo_pair hd) (fun x => i + 1 < x ∧ x ≤ 2 * n - 2 - i) (fun x hx hs => by
      have r : Rt n i (d (bo n x)) := Classical.byContradiction fun c => no ⟨x, hs, c⟩
      have b := bo_lt2 hx
      have dx := hd _ b
      have ne : bo n (d (bo n x)) ≠ i + 1 := fun e => by
        have e := bo_inj2 dx.1 (by omega : i + 1 < 2 * n) (by rw [e, bj])
        have := dx.2.2
        rw [e, di.2.2] at this
        have := congrArg (bo n) this
        rw [bi, bo_bo2 hx] at this
        omega
      unfold Rt at r
      exact ⟨by omega, by omega⟩)
    rw [cntP_int, if_neg (by omega)] at hk
    omega
  obtain ⟨x0, hx0⟩ := ex
  obtain ⟨x, _, ⟨h1, h2⟩, h3⟩ := least_nat (fun x => (i + 1 < x ∧ x ≤ 2 * n - 2 - i) ∧ ¬ Rt n i (d (bo n x))) x0 hx0
  have hx : x < 2 * n := by omega
  have b := bo_lt2 hx
  have dx := hd _ b
  have bx := bo_bo2 hx
  refine ⟨d (bo n x), bo n x, dx.1, dx.2.2, fun e => ?_, fun e => h2 ?_, h2, ?_, by omega, fun z hz z1 z2 => ?_⟩
  · have := dx.2.2
    rw [e, hc] at this
    rw [← this, bj] at bx
    omega
  · rw [e]; unfold Rt; rw [bj]; omega
  · unfold Rt; rw [bx]; omega
  · rw [bx] at z2
    refine Classical.byContradiction fun c => h3 (bo n z) z2 ⟨⟨z1, by omega⟩, ?_⟩
    rw [bo_bo2 hz]; exact c
/-! ### heights -/
def sumN (f : Nat → Int) : Nat → Int
  | 0 => 0
  | N + 1 => sumN f N + f N
theorem sumN_congr {f g : Nat → Int} (N : Nat) (h : ∀ x, x < N → f x = g x) : sumN f N = sumN g N := by
  induction N with
  | zero => rfl
  | succ N ih => simp only [sumN]; rw [ih (fun x hx => h x (by omega)), h N (by omega)]
theorem sumN_add (f g : Nat → Int) (N : Nat) : sumN (fun x => f x + g x) N = sumN f N + sumN g N := by
  induction N with
  | zero => rfl
  | succ N ih => simp only [sumN]; rw [ih]; omega
noncomputable def ind (P : Prop) : Int := open Classical in if P then 1 else 0
theorem ind_yes {P : Prop} (h : P) : ind P = 1 := if_pos h
theorem ind_no {P : Prop} (h : ¬ P) : ind P = 0 := if_neg h
theorem cntP_sum (P : Nat → Prop) (N : Nat) : (cntP P N : Int) = sumN (fun x => ind (P x)) N := by
  induction N with
  | zero => rfl
  | succ N ih =>
    simp only [cntP, sumN]
    rw [← ih]
    by_cases c : P N
    · rw [if_pos c, ind_yes c]; omega
    · rw [if_neg c, ind_no c]; omega
theorem sum_one {f g : Nat → Int} {a : Nat} (N : Nat) (ha : a < N) (h : ∀ x, x < N → x ≠ a → f x = g x) : sumN f N = sumN g N + (f a - g a) := by
  induction N with
  | zero => omega
  | succ N ih =>
    simp only [sumN]
    by_cases c : a = N
    · rw [sumN_congr N (fun x hx => h x (by omega) (by omega)), c]; omega
    · rw [ih (by omega) (fun x hx hne => h x (by omega) hne), h N (by omega) (fun e => c e.symm)]; omega
theorem sum_four {f g : Nat → Int} {a b c e : Nat} (N : Nat) (ha : a < N) (hb : b < N) (hc : c < N) (he : e < N) (h1 : a ≠ b) (h2 : a ≠ c) (h3 : a ≠ e) (h4 : b ≠ c) (h5 : b ≠ e) (h6 : c ≠ e)
    (h : ∀ x, x < N → x ≠ a → x ≠ b → x ≠ c → x ≠ e → f x = g x) : sumN f N = sumN g N + (f a - g a) + (f b - g b) + (f c - g c) + (f e - g e) := by
  have s1 := sum_one (f := f) (g := fun x => if x = a then g x else f x) (a := a) N ha (fun x _ hx => by rw [if_neg hx])
  have s2 := sum_one (f := fun x => if x = a then g x else f x) (g := fun x => if x = a then g x else if x = b then g x else f x) (a := b) N hb (fun x _ hx => by by_cases q : x = a <;> simp [q, hx])
  have s3 := sum_one (f := fun x => if x = a then g x else if x = b then g x else f x) (g := fun x => if x = a then g x else if x = b then g x else if x = c then g x else f x) (a := c) N hc (fun x _ hx => by by_cases q : x = a <;> by_cases r : x = b <;> simp [q, r, hx])
  have s4 := sum_one (f := fun x => if x = a then g x else if x = b then g x else if x = c then g x else f x) (g := g) (a := e) N he (fun x hx hne => by
    by_cases q1 : x = a
    · rw [if_pos q1]
    · rw [if_neg q1]
      by_cases q2 : x = b
      · rw [if_pos q2]
      · rw [if_neg q2]
        by_cases q3 : x = c
        · rw [if_pos q3]
        · rw [if_neg q3]; exact h x hx q1 q2 q3 hne)
  simp only at s1 s2 s3 s4
  rw [if_pos trivial] at s1
  rw [if_neg (Ne.symm h1), if_neg (Ne.symm h1), if_pos trivial] at s2
  rw [if_neg (Ne.symm h2), if_neg (Ne.symm h4), if_neg (Ne.symm h2), if_neg (Ne.symm h4), if_pos trivial] at s3
  rw [if_neg (Ne.symm h3), if_neg (Ne.symm h5), if_neg (Ne.symm h6)] at s4
  omega
/-- how far to the right -/
def xc (n z : Nat) : Nat := if z < n then z else z - n
/-- the strands that cross the line behind column j -/
def lin (n : Nat) (d : Nat → Nat) (j z : Nat) : Prop := xc n z ≤ j ∧ j < xc n (d z)
noncomputable def HS (n : Nat) (d : Nat → Nat) : Int := sumN (fun j => (cntP (lin n d j) (2 * n) : Int)) (n - 1)
theorem hs_congr {n : Nat} {d e : Nat → Nat} (h : ∀ z, z < 2 * n → d z = e z) : HS n d = HS n e := by
  refine sumN_congr _ (fun j _ => ?_)
  rw [cntP_congr (2 * n) (fun z hz => by unfold lin; rw [h z hz] : ∀ z, z < 2 * n → (lin n d j z ↔ lin n e j z))]
theorem sum_seg (a b : Nat) (N : Nat) : sumN (fun j => ind (a ≤ j ∧ j < b)) N = if a ≤ (if b ≤ N then b else N) then ((if b ≤ N then b else N : Nat) : Int) - a else 0 := by
  induction N with
  | zero => simp only [sumN]; by_cases c : b ≤ 0 <;> by_cases e : a ≤ 0 <;> simp [c, e] <;> omega
  | succ N ih =>
    simp only [sumN]
    rw [ih]
    by_cases c : a ≤ N ∧ N < b
    · rw [ind_yes c]
      by_cases e : b ≤ N <;> by_cases f : b ≤ N + 1 <;> simp only [e, f, if_true, if_false] <;> (repeat' split) <;> omega
    · rw [ind_no c]
      by_cases e : b ≤ N <;> by_cases f : b ≤ N + 1 <;> simp only [e, f, if_true, if_false] <;> (repeat' split) <;> omega
/-- how far apart -/
def dd (a b : Nat) : Int := if a ≤ b then (b : Int) - a else (a : Int) - b
theorem sum_dd {a b N : Nat} (ha : a ≤ N) (hb : b ≤ N) : sumN (fun j => ind (a ≤ j ∧ j < b)) N + sumN (fun j => ind (b ≤ j ∧ j < a)) N = dd a b := by
  rw [sum_seg, sum_seg, if_pos ha, if_pos hb]
  unfold dd
  by_cases c : a ≤ b <;> by_cases e : b ≤ a <;> simp only [c, e, if_true, if_false] <;> omega
theorem xc_lt {n z : Nat} (h0 : 0 < n) (h : z < 2 * n) : xc n z < n := by unfold xc; split <;> omega
/-- the height of a diagram with a hook on top -/
theorem hs_tl {n i : Nat} {o : Nat → Nat} (ho : Mat n o) (hi : i + 1 < n) (hne : o i ≠ i + 1) :
    HS n (tl i o) = HS n o + 1 + dd (xc n (o i)) (xc n (o (i + 1))) - dd i (xc n (o i)) - dd (i + 1) (xc n (o (i + 1))) := by
  have oi := ho i (by omega)
  have oj := ho (i + 1) (by omega)
  have hji : o (i + 1) ≠ i := fun f => by rw [f] at oj; omega
  have hpq : o i ≠ o (i + 1) := fun f => by have := oi.2.2; rw [f, oj.2.2] at this; omega
  have xi : xc n i = i := by unfold xc; rw [if_pos (by omega)]
  have xj : xc n (i + 1) = i + 1 := by unfold xc; rw [if_pos (by omega)]
  have t1 : tl i o i = i + 1 := if_pos rfl
  have t2 : tl i o (i + 1) = i := by unfold tl; rw [if_neg (by omega), if_pos rfl]
  have t3 : tl i o (o i) = o (i + 1) := by unfold tl; rw [if_neg oi.2.1, if_neg hne, if_pos oi.2.2]
  have t4 : tl i o (o (i + 1)) = o i := by unfold tl; rw [if_neg hji, if_neg oj.2.1, if_neg (by rw [oj.2.2]; omega), if_pos oj.2.2]
  have line : ∀ j, (cntP (lin n (tl i o) j) (2 * n) : Int) = (cntP (lin n o j) (2 * n) : Int) + (ind (i ≤ j ∧ j < i + 1) - ind (i ≤ j ∧ j < xc n (o i))) + (ind (i + 1 ≤ j ∧ j < i) - ind (i + 1 ≤ j ∧ j < xc n (o (i + 1)))) +
      (ind (xc n (o i) ≤ j ∧ j < xc n (o (i + 1))) - ind (xc n (o i) ≤ j ∧ j < i)) + (ind (xc n (o (i + 1)) ≤ j ∧ j < xc n (o i)) - ind (xc n (o (i + 1)) ≤ j ∧ j < i + 1)) := by
    intro j
    rw [cntP_sum, cntP_sum]
    have s := sum_four (f := fun x => ind (lin n (tl i o) j x)) (g := fun x => ind (lin n o j x)) (a := i) (b := i + 1) (c := o i) (e := o (i + 1)) (2 * n) (by omega) (by omega) oi.1 oj.1 (by omega) (Ne.symm oi.2.1) (Ne.symm hji) (Ne.symm hne) (Ne.symm oj.2.1) hpq (fun x hx a b c e => by
      have ox := ho x hx
      have : tl i o x = o x := by unfold tl; rw [if_neg a, if_neg b, if_neg (fun f => c (by rw [← f, ox.2.2])), if_neg (fun f => e (by rw [← f, ox.2.2]))]
      unfold lin; rw [this])
    unfold lin at s
    rw [t1, t2, t3, t4, oi.2.2, oj.2.2, xi, xj] at s
    exact s
  unfold HS
  rw [sumN_congr _ (fun j _ => line j)]
  have p := xc_lt (by omega) oi.1
  have q := xc_lt (by omega) oj.1
  have d1 := sum_dd (a := i) (b := i + 1) (N := n - 1) (by omega) (by omega)
  have d2 := sum_dd (a := i) (b := xc n (o i)) (N := n - 1) (by omega) (by omega)
  have d3 := sum_dd (a := i + 1) (b := xc n (o (i + 1))) (N := n - 1) (by omega) (by omega)
  have d4 := sum_dd (a := xc n (o i)) (b := xc n (o (i + 1))) (N := n - 1) (by omega) (by omega)
  have e1 : dd i (i + 1) = 1 := by unfold dd; rw [if_pos (by omega)]; omega
  rw [e1] at d1
  have sub : ∀ f g : Nat → Int, sumN (fun x => f x - g x) (n - 1) = sumN f (n - 1) - sumN g (n - 1) := fun f g => by
    have a := sumN_add (fun x => f x - g x) g (n - 1)
    have b := sumN_congr (f := fun x => f x - g x + g x) (g := f) (n - 1) (fun x _ => by omega)
    rw [b] at a
    omega
  rw [sumN_add, sumN_add, sumN_add, sumN_add, sub, sub, sub, sub]
  omega
/-- a hook on top makes a diagram higher by at most one, or not -/
theorem hs_step {n i : Nat} {o : Nat → Nat} (ho : Mat n o) (hi : i + 1 < n) (hne : o i ≠ i + 1) :
    ∃ k : Int, HS n (tl i o) = HS n o + 2 * k ∧ k ≤ 1 ∧ (k = 1 ↔ xc n (o i) ≤ i ∧ i + 1 ≤ xc n (o (i + 1))) := by
  rw [hs_tl ho hi hne]
  generalize xc n (o i) = P
  generalize xc n (o (i + 1)) = Q
  have h : ∃ k : Int, 1 + dd P Q - dd i P - dd (i + 1) Q = 2 * k ∧ k ≤ 1 ∧ (k = 1 ↔ P ≤ i ∧ i + 1 ≤ Q) := by
    unfold dd
    by_cases a : P ≤ i <;> by_cases b : i + 1 ≤ Q
    · exact ⟨1, by rw [if_pos (by omega), if_pos b]; split <;> omega, by omega, by omega⟩
    · by_cases c : P ≤ Q
      · exact ⟨(Q : Int) - i, by rw [if_pos c, if_neg b]; split <;> omega, by omega, by omega⟩
      · exact ⟨(P : Int) - i, by rw [if_neg c, if_neg b]; split <;> omega, by omega, by omega⟩
    · by_cases c : P ≤ Q
      · exact ⟨1 + (i : Int) - P, by rw [if_pos c, if_pos b, if_pos (by omega)]; omega, by omega, by omega⟩
      · exact ⟨1 + (i : Int) - Q, by rw [if_neg c, if_pos b, if_pos (by omega)]; omega, by omega, by omega⟩
    · exact ⟨0, by rw [if_neg (by omega), if_neg b, if_pos (by omega)]; omega, by omega, by omega⟩
  obtain ⟨k, h1, h2, h3⟩ := h
  exact ⟨k, by omega, h2, h3⟩
theorem hs_id {n : Nat} : HS n (idf n) = 0 := by
  unfold HS
  have e : ∀ j, cntP (lin n (idf n) j) (2 * n) = 0 := fun j => cntP_none _ (fun z hz h => by
    unfold lin xc idf at h
    by_cases c : z < n <;> simp only [c, if_true, if_false] at h <;> (repeat' split at h) <;> omega)
  rw [sumN_congr (g := fun _ => 0) _ (fun j _ => by rw [e j]; rfl)]
  generalize n - 1 = m
  induction m with
  | zero => rfl
  | succ m ih => simp only [sumN]; rw [ih]; rfl
/-! ### where there is no cup -/
theorem cup_ind {n : Nat} {d : Nat → Nat} (hd : Mat n d) (hn : NCf n d) (m : Nat) : ∀ a, a < d a → d a < n → d a - a ≤ m → ∃ i, i + 1 < n ∧ d i = i + 1 := by
  induction m with
  | zero => intro a h1 h2 h3; omega
  | succ m ih =>
    intro a h1 h2 h3
    by_cases e : d a = a + 1
    · exact ⟨a, by omega, e⟩
    · have da := hd a (by omega)
      have dc := hd (a + 1) (by omega)
      have n1 := hn a (a + 1) (by omega) (by omega)
      have n2 := hn (d (a + 1)) a dc.1 (by omega)
      rw [dc.2.2] at n2
      have v1 : bo n a = a := bo_val (by omega)
      have v2 : bo n (a + 1) = a + 1 := bo_val (by omega)
      have v3 : bo n (d a) = d a := bo_val h2
      rw [v1, v2, v3] at n1 n2
      have x1 : d (a + 1) ≠ d a := fun f => by have := dc.2.2; rw [f, da.2.2] at this; omega
      have x2 : d (a + 1) ≠ a := fun f => by have := dc.2.2; rw [f] at this; omega
      have c : d (a + 1) < n := by
        refine Classical.byContradiction fun c => ?_
        have : n ≤ bo n (d (a + 1)) := by unfold bo; rw [if_neg c]; omega
        omega
      have v4 : bo n (d (a + 1)) = d (a + 1) := bo_val c
      rw [v4] at n1 n2
      exact ih (a + 1) (by omega) c (by omega)
theorem cup_ex {n : Nat} {d : Nat → Nat} (hd : Mat n d) (hn : NCf n d) {a : Nat} (h1 : a < n) (h2 : d a < n) : ∃ i, i + 1 < n ∧ d i = i + 1 := by
  have da := hd a (by omega)
  by_cases c : a < d a
  · exact cup_ind hd hn _ a c h2 (Nat.le_refl _)
  · exact cup_ind hd hn _ (d a) (by rw [da.2.2]; omega) (by rw [da.2.2]; omega) (Nat.le_refl _)
theorem ncd_bo {n : Nat} {d : Nat → Nat} (hn : NCf n d) : NCD (2 * n) (fun x => bo n (d (bo n x))) := by
  intro a c ha hc h
  have := hn (bo n a) (bo n c) (bo_lt2 ha) (bo_lt2 hc)
  rw [bo_bo2 ha, bo_bo2 hc] at this
  exact this h
theorem idf_nc {n : Nat} : NCf n (idf n) := by
  intro i k hi hk c
  unfold bo idf at c
  by_cases ci : i < n <;> by_cases ck : k < n <;> simp only [ci, ck, ↓reduceIte] at c <;> (repeat' split at c) <;> omega
theorem no_cup {n : Nat} {d : Nat → Nat} (hd : Mat n d) (hn : NCf n d) (h : ∀ i, i + 1 < n → d i ≠ i + 1) : ∀ z, z < 2 * n → d z = idf n z := by
  have up : ∀ a, a < n → n ≤ d a := fun a ha => Classical.byContradiction fun c => by
    obtain ⟨i, h1, h2⟩ := cup_ex hd hn ha (by omega)
    exact h i h1 h2
  have lo : ∀ i, i < n → d (n + i) < n := fun i hi => by
    have e : cntP (fun i => d (n + i) < n) n = cntP (fun _ => True) n := by
      rw [← thr_low hd]
      exact cntP_congr n (fun i hi => ⟨fun _ => trivial, fun _ => up i hi⟩)
    exact cntP_eq n (fun _ _ _ => trivial) e i hi trivial
  have b := brackets_det (bo_pair hd) (bo_pair (@idf_mat n)) (ncd_bo hn) (ncd_bo idf_nc) (fun x hx => by
    by_cases c : x < n
    · have v : bo n x = x := bo_val c
      rw [v]
      have u := up x c
      have r := (hd x hx).1
      have e1 : n ≤ bo n (d x) := by unfold bo; rw [if_neg (by omega)]; omega
      have e2 : n ≤ bo n (idf n x) := by rw [idf_lo c]; unfold bo; rw [if_neg (by omega)]; omega
      omega
    · have v : bo n x = n + (2 * n - 1 - x) := by unfold bo; rw [if_neg c]; omega
      rw [v]
      have u := lo (2 * n - 1 - x) (by omega)
      rw [bo_val u, idf_hi, bo_val (by omega)]
      omega)
  intro z hz
  have bz := b (bo n z) (bo_lt2 hz)
  rw [bo_bo2 hz] at bz
  exact bo_inj2 (hd z hz).1 (idf_mat z hz).1 bz
/-! ### the program's way to count -/
theorem lin_cnt {n : Nat} {d : Nat → Nat} (hd : Mat n d) (j : Nat) : cntP (fun z => z < d z ∧ (decide (xc n z ≤ j) != decide (xc n (d z) ≤ j)) = true) (2 * n) = cntP (lin n d j) (2 * n) := by
  have s1 := cntP_split (lin n d j) (fun z => z < d z) (2 * n)
  have s2 := cntP_split (fun z => z < d z ∧ (decide (xc n z ≤ j) != decide (xc n (d z) ≤ j)) = true) (fun z => xc n z ≤ j) (2 * n)
  have p : cntP (fun z => lin n d j z ∧ ¬ z < d z) (2 * n) = cntP (fun z => (z < d z ∧ (decide (xc n z ≤ j) != decide (xc n (d z) ≤ j)) = true) ∧ ¬ xc n z ≤ j) (2 * n) := by
    rw [← cntP_perm (N := 2 * n) hd (fun z => lin n d j z ∧ ¬ z < d z)]
    refine cntP_congr _ (fun z hz => ?_)
    have dz := hd z hz
    unfold lin
    rw [dz.2.2]
    simp only [bne_iff_ne, ne_eq, decide_eq_decide]
    omega
  have q : cntP (fun z => lin n d j z ∧ z < d z) (2 * n) = cntP (fun z => (z < d z ∧ (decide (xc n z ≤ j) != decide (xc n (d z) ≤ j)) = true) ∧ xc n z ≤ j) (2 * n) := by
    refine cntP_congr _ (fun z hz => ?_)
    unfold lin
    simp only [bne_iff_ne, ne_eq, decide_eq_decide]
    omega
  omega
/-! ### relations -/
theorem hk_nc {n i : Nat} (h : i + 1 < n) : NCf n (hk n i) := by
  have key : ∀ z, z < 2 * n → (bo n z = i ∧ bo n (hk n i z) = i + 1) ∨ (bo n z = i + 1 ∧ bo n (hk n i z) = i) ∨ (bo n z = 2 * n - 1 - i ∧ bo n (hk n i z) = 2 * n - 2 - i) ∨ (bo n z = 2 * n - 2 - i ∧ bo n (hk n i z) = 2 * n - 1 - i) ∨
      (bo n z ≠ i ∧ bo n z ≠ i + 1 ∧ bo n z ≠ 2 * n - 1 - i ∧ bo n z ≠ 2 * n - 2 - i ∧ bo n z < 2 * n ∧ bo n (hk n i z) = 2 * n - 1 - bo n z) := by
    intro z hz
    unfold hk idf bo
    by_cases c1 : z = n + i + 1
    · right; right; right; left
      rw [if_pos c1, if_neg (by omega), if_neg (by omega)]; omega
    · rw [if_neg c1]
      by_cases c2 : z = n + i
      · right; right; left
        rw [if_pos c2, if_neg (by omega), if_neg (by omega)]; omega
      · rw [if_neg c2]
        by_cases c3 : z = i + 1
        · right; left
          rw [if_pos c3, if_pos (by omega), if_pos (by omega)]; omega
        · rw [if_neg c3]
          by_cases c4 : z = i
          · left
            rw [if_pos c4, if_pos (by omega), if_pos (by omega)]; omega
          · rw [if_neg c4]
            right; right; right; right
            by_cases c5 : z < n
            · rw [if_pos c5, if_pos c5, if_neg (by omega)]; omega
            · rw [if_neg c5, if_neg c5, if_pos (by omega)]; omega
  intro a b ha hb hcr
  have ka := key a ha
  have kb := key b hb
  have ba := bo_lt2 ha
  have bb := bo_lt2 hb
  generalize bo n a = A at *
  generalize bo n b = B at *
  generalize bo n (hk n i a) = A' at *
  generalize bo n (hk n i b) = B' at *
  omega
end Go.Proofs.Ytjfkompfkgjdaaa.G
end
section
/- A hook on top, heights and opened arches, as the program has them. -/
namespace Go.Proofs.Ytjfkompfkgjdaaa.L
open Go.RowKit Go.Proofs.Ytjfkompfkgjdaaa.PC Go.Proofs.YtjfkompfkgjdaaaW.PrintWords Go.Proofs.YtjfkompfkgjdaaaW.PrintLast Go.Proofs.Ytjfkompfkgjdaaa.G
/-! ### a hook on top -/
theorem top_list {n i : Nat} {o : List Int} (ho : LM n o) (hi : i + 1 < n) : LM n (prodL n (hkL n i) o) ∧ (∀ z, z < 2 * n → fn (prodL n (hkL n i) o) z = tl i (fn o) z) ∧ (fn o i ≠ i + 1 → lops n (fn (hkL n i)) (fn o) = 0) := by
  have h := hkL_lm hi
  have c := prod_congr (n := n) (a := fn (hkL n i)) (a' := G.hk n i) (b := fn o) (b' := fn o) (fun z hz => h.2 z hz) (fun _ _ => rfl)
  refine ⟨prodL_lm h.1 ho, fun z hz => ?_, fun hne => ?_⟩
  · rw [prodL_fn hz, c.1]; exact tl_prod ho.mat hi hz
  · rw [c.2]; exact tl_lops ho.mat hi hne
/-! ### heights -/
theorem tmod_xc {n z : Nat} (h0 : 0 < n) (hz : z < 2 * n) : Int.tmod (z : Int) (n : Int) = (xc n z : Int) := by
  have em : Int.tmod (z : Int) (n : Int) = ((z % n : Nat) : Int) := by rw [Int.tmod_eq_emod_of_nonneg (by omega)]; rfl
  rw [em]
  unfold xc
  by_cases c : z < n
  · rw [if_pos c, Nat.mod_eq_of_lt c]
  · rw [if_neg c, Nat.mod_eq_sub_mod (by omega), Nat.mod_eq_of_lt (by omega)]
def Crn (n : Nat) (l : List Int) (j z : Nat) : Prop := z < fn l z ∧ (decide (xc n z ≤ j) != decide (xc n (fn l z) ≤ j)) = true
theorem height_l1 {n : Nat} (h0 : 0 < n) (hn : n ≤ 500) {l : List Int} (h : LM n l) (s : Int) (j : Nat) (hs : 0 ≤ s ∧ s ≤ 1000000) (hj : j ≤ 1000) {r : Int}
    (nx : Ev (fun k => plait_diagram_height.l0 k l (n : Int) (s + (cntP (Crn n l j) (2 * n) : Int)) ((n - 1 : Nat) : Int) ((j + 1 : Nat) : Int)) r) (c : Nat) : ∀ i, i + c = 2 * n →
    Ev (fun k => plait_diagram_height.l1 k l (n : Int) s (j : Int) (cntP (Crn n l j) i : Int) ((n - 1 : Nat) : Int) (j : Int) l ((2 * n : Nat) : Int) (i : Int)) r := by
  have hl := h.len
  induction c with
  | zero =>
    intro i hi
    obtain rfl : i = 2 * n := by omega
    have hle := cntP_le (Crn n l j) (2 * n)
    refine Ev.step (fun k => ?_) nx
    simp only [plait_diagram_height.l1]
    rw [if_neg (by omega), pw64 (by omega) (by omega), pw64 (by omega) (by omega)]
    rfl
  | succ c ih =>
    intro i hi
    have hi2 : i < 2 * n := by omega
    have e := h.nn i hi2
    have m := (h.mat i hi2).1
    have hle := cntP_le (Crn n l j) i
    have g := ih (i + 1) (by omega)
    simp only [cntP] at g
    by_cases q : i < fn l i
    · have dc : (decide (Int.tmod (i : Int) (n : Int) ≤ (j : Int)) != decide (Int.tmod (rd l (i : Int)) (n : Int) ≤ (j : Int))) = (decide (xc n i ≤ j) != decide (xc n (fn l i) ≤ j)) := by
        rw [e, tmod_xc h0 hi2, tmod_xc h0 m]
        congr 1
        · rw [decide_eq_decide]; omega
        · rw [decide_eq_decide]; omega
      by_cases w : (decide (xc n i ≤ j) != decide (xc n (fn l i) ≤ j)) = true
      · rw [if_pos (show Crn n l j i from ⟨q, w⟩)] at g
        refine Ev.step (fun k => ?_) g
        simp only [plait_diagram_height.l1]
        rw [if_pos (by omega), if_pos (by omega), if_pos (by omega), if_pos (by rw [e]; omega), if_neg (by omega), dc, if_pos w, pw64 (by omega) (by omega), pw64 (by omega) (by omega)]
        rfl
      · rw [if_neg (fun f : Crn n l j i => w f.2)] at g
        refine Ev.step (fun k => ?_) g
        simp only [plait_diagram_height.l1]
        rw [if_pos (by omega), if_pos (by omega), if_pos (by omega), if_pos (by rw [e]; omega), if_neg (by omega), dc, if_neg w, pw64 (by omega) (by omega)]
        rfl
    · rw [if_neg (fun f : Crn n l j i => q f.1)] at g
      refine Ev.step (fun k => ?_) g
      simp only [plait_diagram_height.l1]
      rw [if_pos (by omega), if_pos (by omega), if_pos (by omega), if_neg (by rw [e]; omega), pw64 (by omega) (by omega)]
      rfl
theorem hsum_rng {n : Nat} (d : Nat → Nat) (m : Nat) : 0 ≤ sumN (fun j => (cntP (lin n d j) (2 * n) : Int)) m ∧ sumN (fun j => (cntP (lin n d j) (2 * n) : Int)) m ≤ (m : Int) * (2 * (n : Int)) := by
  induction m with
  | zero => simp [sumN]
  | succ m ih =>
    simp only [sumN]
    have := cntP_le (lin n d m) (2 * n)
    have e : ((m + 1 : Nat) : Int) * (2 * (n : Int)) = (m : Int) * (2 * (n : Int)) + 2 * (n : Int) := by
      rw [show ((m + 1 : Nat) : Int) = (m : Int) + 1 by omega, Int.add_mul, Int.one_mul]
    rw [e]
    omega
theorem hsum_20 {n : Nat} (hn : n ≤ 10) (d : Nat → Nat) {m : Nat} (hm : m ≤ 10) : 0 ≤ sumN (fun j => (cntP (lin n d j) (2 * n) : Int)) m ∧ sumN (fun j => (cntP (lin n d j) (2 * n) : Int)) m ≤ 200 := by
  have h := hsum_rng (n := n) d m
  have : (m : Int) * (2 * (n : Int)) ≤ 10 * 20 := Int.mul_le_mul (by omega) (by omega) (by omega) (by omega)
  omega
theorem hs_20 {n : Nat} (h0 : 0 < n) (hn : n ≤ 10) (d : Nat → Nat) : 0 ≤ HS n d ∧ HS n d ≤ 200 := hsum_20 hn d (by omega)
theorem height_l0 {n : Nat} (h0 : 0 < n) (hn : n ≤ 10) {l : List Int} (h : LM n l) (c : Nat) : ∀ j, j + c = n - 1 →
    Ev (fun k => plait_diagram_height.l0 k l (n : Int) (sumN (fun j => (cntP (lin n (fn l) j) (2 * n) : Int)) j) ((n - 1 : Nat) : Int) (j : Int)) (HS n (fn l) / 2) := by
  induction c with
  | zero =>
    intro j hj
    obtain rfl : j = n - 1 := by omega
    have b := hs_20 h0 hn (fn l)
    refine Ev.step (f := fun _ => some (HS n (fn l) / 2)) (fun k => ?_) (Ev.now _)
    simp only [plait_diagram_height.l0]
    rw [if_neg (by omega)]
    show some (wrap64 (Int.tdiv (HS n (fn l)) 2)) = _
    rw [Int.tdiv_eq_ediv_of_nonneg b.1, pw64 (by omega) (by omega)]
  | succ c ih =>
    intro j hj
    have b := hsum_20 hn (fn l) (m := j) (by omega)
    have g := ih (j + 1) (by omega)
    simp only [sumN] at g
    rw [← lin_cnt h.mat j] at g
    have hl := h.len
    have s := height_l1 h0 (by omega) h (sumN (fun j => (cntP (lin n (fn l) j) (2 * n) : Int)) j) j (by omega) (by omega) g (2 * n) 0 (by omega)
    refine Ev.step (fun k => ?_) s
    simp only [plait_diagram_height.l0]
    rw [if_pos (by omega), hl]
    rfl
theorem height_val {n : Nat} (h0 : 0 < n) (hn : n ≤ 10) {l : List Int} (h : LM n l) : Ev (fun k => plait_diagram_height.f k l) (HS n (fn l) / 2) := by
  have hl := h.len
  refine Ev.congr (fun k => ?_) (height_l0 h0 hn h (n - 1) 0 (by omega))
  unfold plait_diagram_height.f plait_diagram_size.f
  have e : wrap64 ((l.length : Int) / 2) = (n : Int) := by rw [pw64 (by omega) (by omega)]; omega
  rw [Option.bind_some, e, pw64 (by omega) (by omega), show (n : Int) - 1 = ((n - 1 : Nat) : Int) by omega]
  rfl
/-! ### arches of any pairing -/
theorem arches_lm {n : Nat} (h0 : 0 < n) (hn : n ≤ 10) {l : List Int} (h : LM n l) : ∃ s b, Ev (fun k => plait_diagram_arches.f k l) (s, b) ∧ (b = true ↔ NCD (2 * n) (Db n l)) := by
  have hr := arches_start (n := n) (by omega) h0 h.len (arch_run (by omega) h (2 * n) 0 [] [] (by omega) (fun y hy => by cases hy) (by simp) (by simp))
  refine ⟨_, _, hr, ?_⟩
  rw [← run_iff (db_pair h), List.isEmpty_iff]
/-! ### an arch opened -/
theorem openL {n : Nat} {d : List Int} (hd : LM n d) {p q e0 e1 : Nat} (hp : p < 2 * n) (hq : q < 2 * n) (h0 : e0 < 2 * n) (h1 : e1 < 2 * n) :
    (plait_open d (p : Int) (q : Int) (e0 : Int) (e1 : Int)).length = 2 * n ∧ ∀ z : Nat, z < 2 * n → rd (plait_open d (p : Int) (q : Int) (e0 : Int) (e1 : Int)) (z : Int) = ((if z = q then e1 else if z = e1 then q else if z = p then e0 else if z = e0 then p else fn d z : Nat) : Int) := by
  have hl := hd.len
  unfold plait_open
  simp only [Int.toNat_natCast]
  refine ⟨by simp [hl], fun z hz => ?_⟩
  rw [rd_set _ _ _ _ (by simp; omega), rd_set _ _ _ _ (by simp; omega), rd_set _ _ _ _ (by simp; omega), rd_set _ _ _ _ (by omega), hd.nn z hz]
  by_cases c1 : z = q
  · rw [if_pos c1, if_pos c1]
  · rw [if_neg c1, if_neg c1]
    by_cases c2 : z = e1
    · rw [if_pos c2, if_pos c2]
    · rw [if_neg c2, if_neg c2]
      by_cases c3 : z = p
      · rw [if_pos c3, if_pos c3]
      · rw [if_neg c3, if_neg c3]
        by_cases c4 : z = e0
        · rw [if_pos c4, if_pos c4]
        · rw [if_neg c4, if_neg c4]
/-- both ways to open the arch i, i + 1 towards a pair -/
theorem open_one {n i p q : Nat} {d : List Int} (hd : LM n d) (hi : i + 1 < n) (hc : fn d i = i + 1) (hp : p < 2 * n) (hpq : fn d p = q) (h1 : p ≠ i) (h2 : p ≠ i + 1) :
    (LM n (plait_open d (p : Int) (q : Int) (i : Int) ((i : Int) + 1)) ∧ ∀ z, z < 2 * n → fn (plait_open d (p : Int) (q : Int) (i : Int) ((i : Int) + 1)) z = pull (fn d) i p q z) ∧
    (LM n (plait_open d (p : Int) (q : Int) ((i : Int) + 1) (i : Int)) ∧ ∀ z, z < 2 * n → fn (plait_open d (p : Int) (q : Int) ((i : Int) + 1) (i : Int)) z = pull (fn d) i q p z) := by
  have dp := hd.mat p hp
  rw [hpq] at dp
  have di := hd.mat i (by omega)
  rw [hc] at di
  have q1 : q ≠ i := fun e => by rw [e] at dp; omega
  have q2 : q ≠ i + 1 := fun e => by rw [e] at dp; omega
  have e : ((i : Int) + 1) = ((i + 1 : Nat) : Int) := by omega
  rw [e]
  constructor
  · obtain ⟨a, b⟩ := openL hd hp dp.1 (show i < 2 * n by omega) (show i + 1 < 2 * n by omega)
    refine lm_of_fun a (fun z hz => ?_) (opn_mat hd.mat hi hp h1 h2 hpq hc)
    rw [b z hz]
    congr 1
    unfold pull
    by_cases c1 : z = i
    · rw [if_neg (by omega), if_neg (by omega), if_neg (by omega), if_pos c1, if_pos c1]
    · by_cases c2 : z = i + 1
      · rw [if_neg (by omega), if_pos c2, if_neg c1, if_pos c2]
      · by_cases c3 : z = p
        · rw [if_neg (by omega), if_neg c2, if_pos c3, if_neg c1, if_neg c2, if_pos c3]
        · by_cases c4 : z = q
          · rw [if_pos c4, if_neg c1, if_neg c2, if_neg c3, if_pos c4]
          · rw [if_neg c4, if_neg c2, if_neg c3, if_neg c1, if_neg c1, if_neg c2, if_neg c3, if_neg c4]
  · obtain ⟨a, b⟩ := openL hd hp dp.1 (show i + 1 < 2 * n by omega) (show i < 2 * n by omega)
    refine lm_of_fun a (fun z hz => ?_) (opn_mat hd.mat hi dp.1 q1 q2 dp.2.2 hc)
    rw [b z hz]
    congr 1
    unfold pull
    by_cases c1 : z = i
    · rw [if_neg (by omega), if_pos c1, if_pos c1]
    · by_cases c2 : z = i + 1
      · rw [if_neg (by omega), if_neg c1, if_neg (by omega), if_pos c2, if_neg c1, if_pos c2]
      · by_cases c3 : z = q
        · rw [if_pos c3, if_neg c1, if_neg c2, if_pos c3]
        · by_cases c4 : z = p
          · rw [if_neg c3, if_neg c1, if_pos c4, if_neg c1, if_neg c2, if_neg c3, if_pos c4]
          · rw [if_neg c3, if_neg c1, if_neg c4, if_neg c2, if_neg c1, if_neg c2, if_neg c3, if_neg c4]
/-- a candidate is the one that is wanted -/
def Good (n : Nat) (d c : List Int) : Prop := Dia n c ∧ HS n (fn d) = HS n (fn c) + 2
theorem try_val {n i p q : Nat} (h0 : 0 < n) (hn : n ≤ 10) {d c : List Int} (hd : LM n d) (hi : i + 1 < n) (hc : fn d i = i + 1) (hp : p < 2 * n) (hpq : fn d p = q) (h1 : p ≠ i) (h2 : p ≠ i + 1)
    (hl : LM n c) (hf : ∀ z, z < 2 * n → fn c z = pull (fn d) i p q z) :
    Ev (fun k => plait_try k d n (i : Int) (wrap64 (HS n (fn d) / 2 - 1)) c) (open Classical in if Good n d c then some c else none) := by
  obtain ⟨s, b, ea, hb⟩ := arches_lm h0 hn hl
  have bd := hs_20 h0 hn (fn d)
  have bc := hs_20 h0 hn (fn c)
  have dn : ∀ z, z < 2 * n → tl i (fn c) z = fn d z := fun z hz => by
    have t := tl_opn hd.mat hi hc hp h1 h2 hpq hz
    have fi := hf i (by omega)
    have fj := hf (i + 1) (by omega)
    unfold tl at t ⊢
    rw [fi, fj, hf z hz]
    exact t
  have ci : fn c i = p := by rw [hf i (by omega)]; exact if_pos rfl
  have hne : fn c i ≠ i + 1 := by rw [ci]; exact h2
  obtain ⟨k0, s1, s2, _⟩ := hs_step hl.mat hi hne
  rw [hs_congr dn] at s1
  obtain ⟨t1, t2, t3⟩ := top_list hl hi
  have ep : prodL n (hkL n i) c = d := lm_eq t1 hd (fun z hz => by rw [t2 z hz, dn z hz])
  refine Ev.congr (fun k => rfl) (Ev.bind ea ?_)
  have ew : wrap64 (HS n (fn d) / 2 - 1) = HS n (fn d) / 2 - 1 := pw64 (by omega) (by omega)
  by_cases cb : b = true
  · have hD : Dia n c := ⟨h0, hn, hl, hb.1 cb⟩
    refine Ev.congr (fun k => by rw [if_pos cb]) ?_
    refine Ev.bind (height_val h0 hn hl) ?_
    by_cases cg : HS n (fn d) = HS n (fn c) + 2
    · rw [if_pos (show Good n d c from ⟨hD, cg⟩)]
      refine Ev.congr (fun k => by rw [if_pos (by rw [ew]; omega)]) ?_
      refine Ev.bind (hook_ev (by omega) hi) ?_
      refine Ev.congr (f := fun k => (plait_diagram_int_69.f k d d).bind fun eq => if eq = true then some (some c) else some none) (fun k => by
        rw [product_ok (by omega) (hkL_lm hi).1 hl, Option.bind_some, t3 hne, ep]
        exact if_pos rfl) ?_
      have ll := hd.len
      refine Ev.bind (eq_ev (a := d) (b := d) (by omega) rfl) ?_
      exact Ev.congr (fun k => by rw [if_pos (decide_eq_true rfl)]) (Ev.now _)
    · rw [if_neg (fun g : Good n d c => cg g.2)]
      exact Ev.congr (fun k => by rw [if_neg (by rw [ew]; omega)]) (Ev.now _)
  · rw [if_neg (fun g : Good n d c => cb (hb.2 g.1.nc))]
    exact Ev.congr (fun k => by rw [if_neg cb]) (Ev.now _)
end Go.Proofs.Ytjfkompfkgjdaaa.L
end
section
/- The first shortest word, as the program finds it. -/
namespace Go.Proofs.Ytjfkompfkgjdaaa.L
open Go.RowKit Go.Proofs.Ytjfkompfkgjdaaa.PC Go.Proofs.YtjfkompfkgjdaaaW.PrintWords Go.Proofs.YtjfkompfkgjdaaaW.PrintLast Go.Proofs.Ytjfkompfkgjdaaa.G
theorem rt_xc {n i z : Nat} (hi : i + 1 < n) (hz : z < 2 * n) : Rt n i z ↔ i + 1 ≤ xc n z := by
  unfold Rt G.bo xc
  by_cases c : z < n
  · rw [if_pos c, if_pos c]; omega
  · rw [if_neg c, if_neg c]; omega
theorem hs_cup {n i : Nat} {o : Nat → Nat} (ho : Mat n o) (hi : i + 1 < n) (h : o i = i + 1) : HS n (tl i o) = HS n o := by
  refine hs_congr (fun z hz => ?_)
  have oi := ho i (by omega)
  rw [h] at oi
  have oz := ho z hz
  unfold tl
  by_cases c1 : z = i
  · rw [if_pos c1, c1, h]
  · by_cases c2 : z = i + 1
    · rw [if_neg c1, if_pos c2, c2, oi.2.2]
    · rw [if_neg c1, if_neg c2, if_neg (fun f => c2 (by have := oz.2.2; rw [f, h] at this; exact this.symm)), if_neg (fun f => c1 (by have := oz.2.2; rw [f, oi.2.2] at this; exact this.symm))]
theorem top_hs {n i : Nat} {c d : List Int} (hc : LM n c) (hi : i + 1 < n) (e : prodL n (hkL n i) c = d) : HS n (fn d) = HS n (tl i (fn c)) := by
  subst e
  exact hs_congr (fun z hz => (top_list hc hi).2.1 z hz)
/-- a hook more makes the height greater by at most one -/
theorem hs_le {n i : Nat} {c d : List Int} (hc : LM n c) (hi : i + 1 < n) (e : prodL n (hkL n i) c = d) : HS n (fn d) ≤ HS n (fn c) + 2 := by
  rw [top_hs hc hi e]
  by_cases h : fn c i = i + 1
  · rw [hs_cup hc.mat hi h]; omega
  · obtain ⟨k, s1, s2, _⟩ := hs_step hc.mat hi h; omega
structure Got (n i : Nat) (d c : List Int) : Prop where
  ne : fn c i ≠ i + 1
  lft : ¬ Rt n i (fn c i)
  rgt : Rt n i (fn c (i + 1))
  nj : G.bo n (fn c (i + 1)) ≠ i + 1
  pair : fn d (fn c i) = fn c (i + 1)
  plt : fn c i < 2 * n
  pi : fn c i ≠ i
  cup : fn d i = i + 1
  mn : ∀ z, z < 2 * n → i + 1 < G.bo n z → G.bo n z < G.bo n (fn c (i + 1)) → Rt n i (fn d z)
  eq : ∀ z, z < 2 * n → pull (fn d) i (fn c i) (fn c (i + 1)) z = fn c z
theorem good_got {n i : Nat} {c d : List Int} (hc : Dia n c) (hi : i + 1 < n) (e : prodL n (hkL n i) c = d) (s : HS n (fn d) = HS n (fn c) + 2) : Got n i d c := by
  have th := top_hs hc.lm hi e
  have ne : fn c i ≠ i + 1 := fun h => by rw [hs_cup hc.lm.mat hi h] at th; omega
  obtain ⟨k, s1, s2, s3⟩ := hs_step hc.lm.mat hi ne
  have k1 : k = 1 := by omega
  obtain ⟨x1, x2⟩ := s3.1 k1
  have oi := hc.lm.mat i (by omega)
  have oj := hc.lm.mat (i + 1) (by omega)
  have td : ∀ z, z < 2 * n → fn d z = tl i (fn c) z := fun z hz => by rw [← e]; exact (top_list hc.lm hi).2.1 z hz
  have lft : ¬ Rt n i (fn c i) := fun r => by have := (rt_xc hi oi.1).1 r; omega
  have rgt : Rt n i (fn c (i + 1)) := (rt_xc hi oj.1).2 x2
  have hji : fn c (i + 1) ≠ i := fun f => by rw [f] at oj; omega
  refine ⟨ne, lft, rgt, fun f => ?_, ?_, oi.1, oi.2.1, ?_, ?_, fun z hz => ?_⟩
  · exact oj.2.1 (bo_inj2 oj.1 (by omega) (by rw [f]; exact (bo_val (by omega)).symm))
  · rw [td _ oi.1]; unfold tl; rw [if_neg oi.2.1, if_neg ne, if_pos oi.2.2]
  · rw [td i (by omega)]; exact if_pos rfl
  · intro z hz z1 z2
    rw [td z hz]
    exact open_min hc.lm.mat (nc_iff.1 hc.nc) hi rfl rfl lft rgt z hz z1 z2
  · have := opn_tl hc.lm.mat hi ne hz
    rw [← this]
    unfold pull
    rw [td z hz]
theorem good_uniq {n i : Nat} {c c' d : List Int} (hd : Dia n d) (hi : i + 1 < n) (hc : Dia n c) (e : prodL n (hkL n i) c = d) (s : HS n (fn d) = HS n (fn c) + 2) (hc' : Dia n c') (e' : prodL n (hkL n i) c' = d) (s' : HS n (fn d) = HS n (fn c') + 2) : c = c' := by
  have g := good_got hc hi e s
  have g' := good_got hc' hi e' s'
  obtain ⟨q1, q2⟩ := open_uniq hd.lm.mat g.plt g.pair g.lft g.rgt g.nj g.mn g'.plt g'.pair g'.lft g'.rgt g'.nj g'.mn
  refine lm_eq hc.lm hc'.lm (fun z hz => ?_)
  rw [← g.eq z hz, ← g'.eq z hz, q1, q2]
theorem good_ex {n i : Nat} {d : List Int} (hd : Dia n d) (hi : i + 1 < n) (hcup : fn d i = i + 1) : ∃ p q, p < 2 * n ∧ fn d p = q ∧ p ≠ i ∧ p ≠ i + 1 ∧ Good n d (plait_open d (p : Int) (q : Int) (i : Int) ((i : Int) + 1)) ∧ prodL n (hkL n i) (plait_open d (p : Int) (q : Int) (i : Int) ((i : Int) + 1)) = d := by
  obtain ⟨p, q, a1, a2, a3, a4, a5, a6, a7, a8⟩ := open_ex hd.lm.mat hi hcup
  obtain ⟨⟨hl, hf⟩, _⟩ := open_one hd.lm hi hcup a1 a2 a3 a4
  have hn := opn_nc hd.lm.mat (nc_iff.1 hd.nc) hi hcup a1 a2 a3 a5 a6 a8
  have hD : Dia n (plait_open d (p : Int) (q : Int) (i : Int) ((i : Int) + 1)) := ⟨hd.pos, hd.lim, hl, nc_iff.2 (ncf_congr hf hn)⟩
  have dp := hd.lm.mat p a1
  rw [a2] at dp
  have ep : prodL n (hkL n i) (plait_open d (p : Int) (q : Int) (i : Int) ((i : Int) + 1)) = d := by
    obtain ⟨t1, t2, _⟩ := top_list hl hi
    refine lm_eq t1 hd.lm (fun z hz => ?_)
    have t := tl_opn hd.lm.mat hi hcup a1 a3 a4 a2 hz
    rw [t2 z hz]
    unfold tl at t ⊢
    rw [hf i (by omega), hf (i + 1) (by omega), hf z hz]
    exact t
  have ci : fn (plait_open d (p : Int) (q : Int) (i : Int) ((i : Int) + 1)) i = p := by rw [hf i (by omega)]; exact if_pos rfl
  have cj : fn (plait_open d (p : Int) (q : Int) (i : Int) ((i : Int) + 1)) (i + 1) = q := by rw [hf (i + 1) (by omega)]; unfold pull; rw [if_neg (by omega), if_pos rfl]
  have th := top_hs hl hi ep
  obtain ⟨k, s1, s2, s3⟩ := hs_step hl.mat hi (by rw [ci]; exact a4)
  rw [ci, cj] at s3
  have x1 : xc n p ≤ i := by
    refine Classical.byContradiction fun c => a5 ((rt_xc hi a1).2 (by omega))
  have x2 := (rt_xc hi dp.1).1 a6
  have k1 := s3.2 ⟨x1, x2⟩
  exact ⟨p, q, a1, a2, a3, a4, ⟨hD, by omega⟩, ep⟩
/-! ### the search -/
theorem cand_top {n i p q : Nat} {d c : List Int} (hd : LM n d) (hi : i + 1 < n) (hc : fn d i = i + 1) (hp : p < 2 * n) (hpq : fn d p = q) (h1 : p ≠ i) (h2 : p ≠ i + 1)
    (hl : LM n c) (hf : ∀ z, z < 2 * n → fn c z = pull (fn d) i p q z) : prodL n (hkL n i) c = d := by
  obtain ⟨t1, t2, _⟩ := top_list hl hi
  refine lm_eq t1 hd (fun z hz => ?_)
  have t := tl_opn hd.mat hi hc hp h1 h2 hpq hz
  rw [t2 z hz]
  unfold tl at t ⊢
  rw [hf i (by omega), hf (i + 1) (by omega), hf z hz]
  exact t
theorem ends_val {n i p : Nat} {d cs : List Int} (hd : Dia n d) (hi : i + 1 < n) (hcup : fn d i = i + 1) (gs : Good n d cs) (es : prodL n (hkL n i) cs = d) (hp : p < 2 * n) (h1 : p ≠ i) (h2 : p ≠ i + 1) :
    ∃ r, Ev (fun k => plait_ends k d n (i : Int) (wrap64 (HS n (fn d) / 2 - 1)) (p : Int) (fn d p : Int) 0) r ∧ (r = none ∨ r = some cs) ∧ (Good n d (plait_open d (p : Int) (fn d p : Int) (i : Int) ((i : Int) + 1)) → r = some cs) := by
  have dp := hd.lm.mat p hp
  have di := hd.lm.mat i (by omega)
  rw [hcup] at di
  have q1 : fn d p ≠ i := fun e => by have := dp.2.2; rw [e, hcup] at this; omega
  have q2 : fn d p ≠ i + 1 := fun e => by have := dp.2.2; rw [e, di.2.2] at this; omega
  obtain ⟨⟨l1, f1⟩, ⟨l2, f2⟩⟩ := open_one hd.lm hi hcup hp rfl h1 h2
  have t1 := try_val hd.pos hd.lim hd.lm hi hcup hp rfl h1 h2 l1 f1
  have t2 := try_val hd.pos hd.lim hd.lm hi hcup dp.1 dp.2.2 q1 q2 l2 f2
  have u1 : ∀ c, Good n d c → prodL n (hkL n i) c = d → c = cs := fun c g e => good_uniq hd hi g.1 e g.2 gs.1 es gs.2
  by_cases g1 : Good n d (plait_open d (p : Int) (fn d p : Int) (i : Int) ((i : Int) + 1))
  · rw [if_pos g1, show some (plait_open d (p : Int) (fn d p : Int) (i : Int) ((i : Int) + 1)) = some cs from congrArg some (u1 _ g1 (cand_top hd.lm hi hcup hp rfl h1 h2 l1 f1))] at t1
    refine ⟨some cs, ?_, .inr rfl, fun _ => rfl⟩
    refine Ev.congr (f := fun k => (plait_try k d n (i : Int) (wrap64 (HS n (fn d) / 2 - 1)) (plait_open d (p : Int) (fn d p : Int) (i : Int) ((i : Int) + 1))).bind fun r => if r.isSome = true then some r else ((plait_try k d n (i : Int) (wrap64 (HS n (fn d) / 2 - 1)) (plait_open d (p : Int) (fn d p : Int) ((i : Int) + 1) (i : Int))).bind fun s => some s)) (fun k => by simp only [plait_ends]) (Ev.bind t1 ?_)
    exact Ev.congr (fun k => by rw [if_pos (show (some cs).isSome = true from rfl)]) (Ev.now _)
  · rw [if_neg g1] at t1
    by_cases g2 : Good n d (plait_open d (p : Int) (fn d p : Int) ((i : Int) + 1) (i : Int))
    · rw [if_pos g2, show some (plait_open d (p : Int) (fn d p : Int) ((i : Int) + 1) (i : Int)) = some cs from congrArg some (u1 _ g2 (cand_top hd.lm hi hcup dp.1 dp.2.2 q1 q2 l2 f2))] at t2
      refine ⟨some cs, ?_, .inr rfl, fun _ => rfl⟩
      refine Ev.congr (f := fun k => (plait_try k d n (i : Int) (wrap64 (HS n (fn d) / 2 - 1)) (plait_open d (p : Int) (fn d p : Int) (i : Int) ((i : Int) + 1))).bind fun r => if r.isSome = true then some r else ((plait_try k d n (i : Int) (wrap64 (HS n (fn d) / 2 - 1)) (plait_open d (p : Int) (fn d p : Int) ((i : Int) + 1) (i : Int))).bind fun s => some s)) (fun k => by simp only [plait_ends]) (Ev.bind t1 ?_)
      refine Ev.congr (fun k => by rw [if_neg (show ¬ (none : Option (List Int)).isSome = true by decide)]) ?_
      exact Ev.bind t2 (Ev.now _)
    · rw [if_neg g2] at t2
      refine ⟨none, ?_, .inl rfl, fun g => absurd g g1⟩
      refine Ev.congr (f := fun k => (plait_try k d n (i : Int) (wrap64 (HS n (fn d) / 2 - 1)) (plait_open d (p : Int) (fn d p : Int) (i : Int) ((i : Int) + 1))).bind fun r => if r.isSome = true then some r else ((plait_try k d n (i : Int) (wrap64 (HS n (fn d) / 2 - 1)) (plait_open d (p : Int) (fn d p : Int) ((i : Int) + 1) (i : Int))).bind fun s => some s)) (fun k => by simp only [plait_ends]) (Ev.bind t1 ?_)
      refine Ev.congr (fun k => by rw [if_neg (show ¬ (none : Option (List Int)).isSome = true by decide)]) ?_
      exact Ev.bind t2 (Ev.now _)
theorem search_val {n i ps : Nat} {d cs : List Int} (hd : Dia n d) (hi : i + 1 < n) (hcup : fn d i = i + 1) (gs : Good n d cs) (es : prodL n (hkL n i) cs = d) (hps : ps < 2 * n) (s1 : ps ≠ i) (s2 : ps ≠ i + 1) (hc : cs = plait_open d (ps : Int) (fn d ps : Int) (i : Int) ((i : Int) + 1)) (m : Nat) : ∀ p, p + m = 2 * n → p ≤ ps →
    Ev (fun k => plait_search k d n (i : Int) (wrap64 (HS n (fn d) / 2 - 1)) m p) cs := by
  have hl := hd.lm.len
  have di := hd.lm.mat i (by omega)
  rw [hcup] at di
  induction m with
  | zero => intro p h1 h2; omega
  | succ m ih =>
    intro p h1 h2
    have hp2 : p < 2 * n := by omega
    have e := hd.lm.nn p hp2
    have dp := hd.lm.mat p hp2
    by_cases c : (p : Int) = i ∨ (p : Int) = (i : Int) + 1 ∨ rd d (p : Int) = i ∨ rd d (p : Int) = (i : Int) + 1
    · have ne : p ≠ ps := fun f => by
        rw [e] at c
        rcases c with c | c | c | c
        · omega
        · omega
        · have c : fn d p = i := by omega
          have := dp.2.2; rw [c, hcup] at this; omega
        · have c : fn d p = i + 1 := by omega
          have := dp.2.2; rw [c, di.2.2] at this; omega
      refine Ev.congr (fun k => ?_) (ih (p + 1) (by omega) (by omega))
      simp only [plait_search]
      rw [if_pos c]
    · obtain ⟨r, r1, r2, r3⟩ := ends_val hd hi hcup gs es hp2 (by omega) (by omega)
      refine Ev.congr (f := fun k => (plait_ends k d n (i : Int) (wrap64 (HS n (fn d) / 2 - 1)) (p : Int) (fn d p : Int) 0).bind fun r => if r.isSome = true then some (r.getD []) else plait_search k d n (i : Int) (wrap64 (HS n (fn d) / 2 - 1)) m (p + 1)) (fun k => ?_) ?_
      · simp only [plait_search]
        rw [if_neg c, if_pos (by omega), e]
      · refine Ev.bind r1 ?_
        rcases r2 with q | q
        · have ne : p ≠ ps := fun f => by
            have := r3 (by rw [f, ← hc]; exact gs)
            rw [q] at this; cases this
          rw [q]
          refine Ev.congr (fun k => ?_) (ih (p + 1) (by omega) (by omega))
          rw [if_neg (by decide)]
        · rw [q]
          exact Ev.congr (f := fun _ => some cs) (fun k => by rw [if_pos (show (some cs).isSome = true from rfl)]; rfl) (Ev.now _)
theorem short_val {n i : Nat} {d : List Int} (hd : Dia n d) (hi : i + 1 < n) : (fn d i ≠ i + 1 ∧ Ev (fun k => plait_short k d (i : Int)) []) ∨ (fn d i = i + 1 ∧ ∃ c, Good n d c ∧ prodL n (hkL n i) c = d ∧ Ev (fun k => plait_short k d (i : Int)) c) := by
  have hl := hd.lm.len
  have hn := hd.lim
  have e := hd.lm.nn i (by omega)
  have hh : d.length / 2 = n := by omega
  by_cases c : fn d i = i + 1
  · refine .inr ⟨c, ?_⟩
    obtain ⟨p, q, a1, a2, a3, a4, g, ep⟩ := good_ex hd hi c
    subst a2
    refine ⟨_, g, ep, ?_⟩
    have s := search_val hd hi c g ep a1 a3 a4 rfl (2 * n) 0 (by omega) (by omega)
    refine Ev.congr (f := fun k => (plait_diagram_height.f k d).bind fun ht => plait_search k d n (i : Int) (wrap64 (ht - 1)) (2 * n) 0) (fun k => ?_) (Ev.bind (height_val hd.pos hn hd.lm) s)
    unfold plait_short
    rw [hh, if_pos ⟨by omega, by omega, by omega, by omega⟩, if_pos (by rw [e]; omega)]
  · refine .inl ⟨c, Ev.congr (f := fun _ => some []) (fun k => ?_) (Ev.now _)⟩
    unfold plait_short
    rw [hh, if_pos ⟨by omega, by omega, by omega, by omega⟩, if_neg (by rw [e]; omega)]
theorem pick_val {n : Nat} {d : List Int} (hd : Dia n d) (m : Nat) : ∀ i, i + m = n - 1 → (∀ j, j < i → fn d j ≠ j + 1) → (∃ j, j + 1 < n ∧ fn d j = j + 1) →
    ∃ i' c, i' + 1 < n ∧ fn d i' = i' + 1 ∧ (∀ j, j < i' → fn d j ≠ j + 1) ∧ Good n d c ∧ prodL n (hkL n i') c = d ∧ Ev (fun k => plait_pick k d m i) (some (i', c)) := by
  induction m with
  | zero => intro i hi h1 ⟨j, h2, h3⟩; exact absurd h3 (h1 j (by omega))
  | succ m ih =>
    intro i hi h1 hex
    rcases short_val hd (i := i) (by omega) with ⟨c, s⟩ | ⟨c, o, g, ep, s⟩
    · obtain ⟨i', o, b1, b2, b3, b4, b5, b6⟩ := ih (i + 1) (by omega) (fun j hj => by
        by_cases q : j = i
        · rw [q]; exact c
        · exact h1 j (by omega)) hex
      refine ⟨i', o, b1, b2, b3, b4, b5, ?_⟩
      refine Ev.congr (f := fun k => (plait_short k d (i : Int)).bind fun o => if o = [] then plait_pick k d m (i + 1) else some (some (i, o))) (fun k => by simp only [plait_pick]) (Ev.bind s ?_)
      exact Ev.congr (fun k => by rw [if_pos rfl]) b6
    · refine ⟨i, o, by omega, c, h1, g, ep, ?_⟩
      refine Ev.congr (f := fun k => (plait_short k d (i : Int)).bind fun o => if o = [] then plait_pick k d m (i + 1) else some (some (i, o))) (fun k => by simp only [plait_pick]) (Ev.bind s ?_)
      have ne : o ≠ [] := fun f => by have h3 := g.1.pos; have h4 := g.1.lm.len; rw [f] at h4; simp at h4; omega
      exact Ev.congr (fun k => by rw [if_neg ne]) (Ev.now _)
/-- how the word of a diagram comes about -/
inductive Wd (n : Nat) : List Int → List Nat → Prop
  | nil : Wd n (idL n) []
  | cons {d c : List Int} {i : Nat} {w : List Nat} : Dia n d → i + 1 < n → fn d i = i + 1 → (∀ j, j < i → fn d j ≠ j + 1) → Good n d c → prodL n (hkL n i) c = d → Wd n c w → Wd n d (i :: w)
theorem no_cup_id {n : Nat} {d : List Int} (hd : Dia n d) (h : ∀ i, i + 1 < n → fn d i ≠ i + 1) : d = idL n := by
  refine lm_eq hd.lm (idL_lm n) (fun z hz => ?_)
  rw [no_cup hd.lm.mat (nc_iff.1 hd.nc) h z hz]
  exact (idL_fn hz).symm
def ints (w : List Nat) : List Int := w.map (fun x : Nat => (x : Int))
theorem wordGo_val {n : Nat} (m : Nat) : ∀ d, Dia n d → HS n (fn d) + 2 ≤ 2 * (m : Int) → ∃ w, Wd n d w ∧ ∀ out, Ev (fun k => plait_wordGo k m d out) (out ++ ints w) := by
  induction m with
  | zero => intro d hd h; have := (hs_20 hd.pos hd.lim (fn d)).1; omega
  | succ m ih =>
    intro d hd h
    have hl := hd.lm.len
    have hn := hd.lim
    have h0 := hd.pos
    have hh : d.length / 2 = n := by omega
    have b := hs_20 hd.pos hd.lim (fn d)
    by_cases ex : ∃ j, j + 1 < n ∧ fn d j = j + 1
    · obtain ⟨i, c, b1, b2, b3, b4, b5, b6⟩ := pick_val hd (n - 1) 0 (by omega) (fun j hj => by omega) ex
      have bc := hs_20 hd.pos hd.lim (fn c)
      have hs := b4.2
      obtain ⟨w, w1, w2⟩ := ih c b4.1 (by omega)
      refine ⟨i :: w, .cons hd b1 b2 b3 b4 b5 w1, fun out => ?_⟩
      refine Ev.congr (f := fun k => (plait_diagram_height.f k d).bind fun h => if h > 0 then ((plait_pick k d (n - 1) 0).bind fun r => if r.isSome = true then plait_wordGo k m (r.getD (0, [])).2 (out ++ [(((r.getD (0, [])).1 : Nat) : Int)]) else none) else some out) (fun k => ?_) ?_
      · simp only [plait_wordGo]
        rw [if_pos ⟨by omega, by omega, by omega⟩, hh]
      · refine Ev.bind (height_val h0 hn hd.lm) ?_
        refine Ev.congr (fun k => by rw [if_pos (show HS n (fn d) / 2 > 0 by omega)]) ?_
        refine Ev.bind b6 ?_
        have w3 := w2 (out ++ [(i : Int)])
        rw [List.append_assoc] at w3
        refine Ev.congr (fun k => ?_) w3
        rw [if_pos (show (some (i, c)).isSome = true from rfl)]; rfl
    · have e := no_cup_id hd (fun i hi f => ex ⟨i, hi, f⟩)
      have z : HS n (fn d) = 0 := by rw [e, hs_congr (fun z hz => idL_fn hz), hs_id]
      refine ⟨[], by rw [e]; exact .nil, fun out => ?_⟩
      refine Ev.congr (f := fun k => (plait_diagram_height.f k d).bind fun h => if h > 0 then ((plait_pick k d (n - 1) 0).bind fun r => if r.isSome = true then plait_wordGo k m (r.getD (0, [])).2 (out ++ [(((r.getD (0, [])).1 : Nat) : Int)]) else none) else some out) (fun k => ?_) ?_
      · simp only [plait_wordGo]
        rw [if_pos ⟨by omega, by omega, by omega⟩, hh]
      · refine Ev.bind (height_val h0 hn hd.lm) ?_
        rw [z]
        refine Ev.congr (f := fun _ => some (out ++ ints [])) (fun k => ?_) (Ev.now _)
        rw [if_neg (by decide)]
        simp [ints]
theorem word_val {n : Nat} {d : List Int} (hd : Dia n d) : ∃ w, Wd n d w ∧ Ev (fun k => plait_diagram_word.f k d) (ints w) := by
  have b := hs_20 hd.pos hd.lim (fn d)
  obtain ⟨w, w1, w2⟩ := wordGo_val 1000 d hd (by omega)
  exact ⟨w, w1, Ev.congr (fun k => rfl) (w2 [])⟩
/-! ### words -/
def actW (n : Nat) : List Nat → List Int → List Int
  | [], o => o
  | i :: w, o => prodL n (hkL n i) (actW n w o)
def okN (n : Nat) (w : List Nat) : Prop := ∀ i, i ∈ w → i + 1 < n
theorem act_lm {n : Nat} {w : List Nat} (hw : okN n w) {o : List Int} (ho : LM n o) : LM n (actW n w o) := by
  induction w with
  | nil => exact ho
  | cons i w ih =>
    have hi := hw i List.mem_cons_self
    exact prodL_lm (hkL_lm hi).1 (ih (fun j hj => hw j (List.mem_cons_of_mem _ hj)))
theorem act_hs {n : Nat} {w : List Nat} (hw : okN n w) {o : List Int} (ho : LM n o) : HS n (fn (actW n w o)) ≤ HS n (fn o) + 2 * (w.length : Int) := by
  induction w with
  | nil => simp [actW]
  | cons i w ih =>
    have hi := hw i List.mem_cons_self
    have hw' : okN n w := fun j hj => hw j (List.mem_cons_of_mem _ hj)
    have := ih hw'
    have h := hs_le (act_lm hw' ho) hi (d := actW n (i :: w) o) rfl
    simp only [List.length_cons]
    omega
theorem hs_idL {n : Nat} : HS n (fn (idL n)) = 0 := by rw [hs_congr (fun z hz => idL_fn hz), hs_id]
theorem wd_val {n : Nat} {d : List Int} {w : List Nat} (h : Wd n d w) : okN n w ∧ actW n w (idL n) = d ∧ HS n (fn d) = 2 * (w.length : Int) := by
  induction h with
  | nil => exact ⟨fun i hi => (by cases hi), rfl, (by rw [hs_idL]; rfl)⟩
  | cons hd hi hc hm hg he _ ih =>
    obtain ⟨a, b, c⟩ := ih
    refine ⟨fun j hj => ?_, ?_, ?_⟩
    · rcases List.mem_cons.1 hj with rfl | hj
      · exact hi
      · exact a j hj
    · show prodL _ _ (actW _ _ _) = _
      rw [b, he]
    · have := hg.2
      simp only [List.length_cons]
      omega
end Go.Proofs.Ytjfkompfkgjdaaa.L
end
section
/- Words by their length and letters, and a search by breadth: plain. -/
namespace Go.Proofs.Ytjfkompfkgjdaaa.G
/-! ### words by their length and then by their letters -/
def lexLt : List Nat → List Nat → Prop
  | [], [] => False
  | [], _ :: _ => True
  | _ :: _, [] => False
  | a :: u, b :: v => a < b ∨ (a = b ∧ lexLt u v)
def slt (u v : List Nat) : Prop := u.length < v.length ∨ (u.length = v.length ∧ lexLt u v)
def sle (u v : List Nat) : Prop := u = v ∨ slt u v
theorem lexLt_trans : ∀ u v w : List Nat, lexLt u v → lexLt v w → lexLt u w
  | [], [], _, h, _ => h.elim
  | [], _ :: _, [], _, k => k.elim
  | [], _ :: _, _ :: _, _, _ => trivial
  | _ :: _, [], _, h, _ => h.elim
  | _ :: _, _ :: _, [], _, k => k.elim
  | a :: u, b :: v, c :: w, h, k => by
    have h : a < b ∨ (a = b ∧ lexLt u v) := h
    have k : b < c ∨ (b = c ∧ lexLt v w) := k
    show a < c ∨ (a = c ∧ lexLt u w)
    rcases h with h | ⟨h, h2⟩ <;> rcases k with k | ⟨k, k2⟩
    · exact .inl (by omega)
    · exact .inl (by omega)
    · exact .inl (by omega)
    · exact .inr ⟨by omega, lexLt_trans u v w h2 k2⟩
theorem slt_trans {u v w : List Nat} (h : slt u v) (k : slt v w) : slt u w := by
  unfold slt at *
  rcases h with h | ⟨h, h2⟩ <;> rcases k with k | ⟨k, k2⟩
  · exact .inl (by omega)
  · exact .inl (by omega)
  · exact .inl (by omega)
  · exact .inr ⟨by omega, lexLt_trans _ _ _ h2 k2⟩
theorem sle_trans {u v w : List Nat} (h : sle u v) (k : sle v w) : sle u w := by
  rcases h with rfl | h
  · exact k
  · rcases k with rfl | k
    · exact .inr h
    · exact .inr (slt_trans h k)
theorem sle_slt {u v w : List Nat} (h : sle u v) (k : slt v w) : slt u w := by
  rcases h with rfl | h
  · exact k
  · exact slt_trans h k
theorem lexLt_snoc (i j : Nat) : ∀ u v : List Nat, u.length = v.length → lexLt u v → lexLt (u ++ [i]) (v ++ [j])
  | [], [], _, h => h.elim
  | [], _ :: _, h, _ => by simp at h
  | _ :: _, [], h, _ => by simp at h
  | a :: u, b :: v, hl, h => by
    have h : a < b ∨ (a = b ∧ lexLt u v) := h
    show a < b ∨ (a = b ∧ lexLt (u ++ [i]) (v ++ [j]))
    rcases h with h | ⟨h, h2⟩
    · exact .inl h
    · exact .inr ⟨h, lexLt_snoc i j u v (by simpa using hl) h2⟩
theorem lexLt_last {i j : Nat} (h : i < j) : ∀ u : List Nat, lexLt (u ++ [i]) (u ++ [j])
  | [] => .inl h
  | _ :: u => .inr ⟨rfl, lexLt_last h u⟩
theorem slt_snoc {u v : List Nat} (i j : Nat) (h : slt u v) : slt (u ++ [i]) (v ++ [j]) := by
  unfold slt at *
  simp only [List.length_append, List.length_cons, List.length_nil]
  rcases h with h | ⟨h, h2⟩
  · exact .inl (by omega)
  · exact .inr ⟨by omega, lexLt_snoc i j u v h h2⟩
theorem slt_last {i j : Nat} (h : i < j) (u : List Nat) : slt (u ++ [i]) (u ++ [j]) := .inr ⟨by simp, lexLt_last h u⟩
theorem slt_grow (u : List Nat) (i : Nat) : slt u (u ++ [i]) := .inl (by simp)
theorem sle_snoc {u v : List Nat} (i : Nat) (h : sle u v) : sle (u ++ [i]) (v ++ [i]) := by
  rcases h with rfl | h
  · exact .inl rfl
  · exact .inr (slt_snoc i i h)
theorem nil_slt (u : List Nat) (i : Nat) : slt [] (u ++ [i]) := .inl (by simp)
/-! ### a search by breadth -/
section
variable {α : Type} (mul : α → Nat → α) (one : α) (m : Nat)
def valB (u : List Nat) : α := u.foldl mul one
theorem valB_snoc (u : List Nat) (j : Nat) : valB mul one (u ++ [j]) = mul (valB mul one u) j := by simp [valB]
/-- the queue's words, when the words before k have been gone through, and of word k the letters below i -/
structure Bfs (Q : List (List Nat)) (k i : Nat) : Prop where
  zero : Q[0]? = some []
  srt : ∀ (a b : Nat) (u v : List Nat), a < b → Q[a]? = some u → Q[b]? = some v → slt u v
  dst : ∀ (a b : Nat) (u v : List Nat), a < b → Q[a]? = some u → Q[b]? = some v → valB mul one u ≠ valB mul one v
  par : ∀ (b : Nat) (v : List Nat), Q[b]? = some v → v = [] ∨ ∃ (a : Nat) (u : List Nat) (j : Nat), Q[a]? = some u ∧ v = u ++ [j] ∧ j < m ∧ (a < k ∨ (a = k ∧ j < i))
  clo : ∀ (a : Nat) (u : List Nat) (j : Nat), Q[a]? = some u → j < m → (a < k ∨ (a = k ∧ j < i)) → ∃ (b : Nat) (v : List Nat), Q[b]? = some v ∧ valB mul one v = mul (valB mul one u) j ∧ sle v (u ++ [j])
variable {mul one m}
theorem Bfs.start : Bfs mul one m [[]] 0 0 := by
  refine ⟨rfl, fun a b u v h _ hb => ?_, fun a b u v h _ hb => ?_, fun b v hb => ?_, fun a u j _ _ h => by omega⟩
  · obtain ⟨c, _⟩ := List.getElem?_eq_some_iff.1 hb; simp at c; omega
  · obtain ⟨c, _⟩ := List.getElem?_eq_some_iff.1 hb; simp at c; omega
  · obtain ⟨c, e⟩ := List.getElem?_eq_some_iff.1 hb
    have : b = 0 := by simp at c; omega
    subst this
    exact .inl (by simpa using e.symm)
/-- all that is there is before the word that is looked at -/
theorem Bfs.before {Q : List (List Nat)} {k i : Nat} (h : Bfs mul one m Q k i) {x : List Nat} (hx : Q[k]? = some x) {b : Nat} {v : List Nat} (hv : Q[b]? = some v) : slt v (x ++ [i]) := by
  rcases h.par b v hv with rfl | ⟨a, u, j, ha, rfl, _, hj⟩
  · exact nil_slt x i
  · rcases hj with hj | ⟨rfl, hj⟩
    · exact slt_snoc j i (h.srt a k u x hj ha hx)
    · rw [ha] at hx
      obtain rfl := Option.some.inj hx
      exact slt_last hj u
theorem Bfs.met {Q : List (List Nat)} {k i : Nat} (h : Bfs mul one m Q k i) {x : List Nat} (hx : Q[k]? = some x) {b : Nat} {v : List Nat} (hv : Q[b]? = some v) (e : valB mul one v = mul (valB mul one x) i) : Bfs mul one m Q k (i + 1) := by
  refine ⟨h.zero, h.srt, h.dst, fun b v hb => ?_, fun a u j ha hj hlt => ?_⟩
  · rcases h.par b v hb with q | ⟨a, u, j, a1, a2, a3, a4⟩
    · exact .inl q
    · exact .inr ⟨a, u, j, a1, a2, a3, by omega⟩
  · by_cases c : a < k ∨ (a = k ∧ j < i)
    · exact h.clo a u j ha hj c
    · have e1 : a = k := by omega
      have e2 : j = i := by omega
      subst e1 e2
      rw [ha] at hx
      obtain rfl := Option.some.inj hx
      exact ⟨b, v, hv, e, .inr (h.before ha hv)⟩
theorem Bfs.new {Q : List (List Nat)} {k i : Nat} (h : Bfs mul one m Q k i) (hi : i < m) {x : List Nat} (hx : Q[k]? = some x) (hn : ∀ (b : Nat) (v : List Nat), Q[b]? = some v → valB mul one v ≠ mul (valB mul one x) i) : Bfs mul one m (Q ++ [x ++ [i]]) k (i + 1) := by
  have old : ∀ (b : Nat) (v : List Nat), (Q ++ [x ++ [i]])[b]? = some v → Q[b]? = some v ∨ (b = Q.length ∧ v = x ++ [i]) := fun b v hb => by
    by_cases c : b < Q.length
    · rw [List.getElem?_append_left c] at hb; exact .inl hb
    · obtain ⟨c2, e⟩ := List.getElem?_eq_some_iff.1 hb
      have : b = Q.length := by simp at c2; omega
      subst this
      simp at e
      exact .inr ⟨rfl, e.symm⟩
  have up : ∀ {b : Nat} {v : List Nat}, Q[b]? = some v → (Q ++ [x ++ [i]])[b]? = some v := fun {b v} hb => by
    obtain ⟨c, _⟩ := List.getElem?_eq_some_iff.1 hb
    rw [List.getElem?_append_left c]; exact hb
  have lt : ∀ {b : Nat} {v : List Nat}, Q[b]? = some v → b < Q.length := fun hb => (List.getElem?_eq_some_iff.1 hb).1
  refine ⟨up h.zero, fun a b u v hab ha hb => ?_, fun a b u v hab ha hb => ?_, fun b v hb => ?_, fun a u j ha hj hlt => ?_⟩
  · rcases old a u ha with ha | ⟨ha, rfl⟩
    · rcases old b v hb with hb | ⟨hb, rfl⟩
      · exact h.srt a b u v hab ha hb
      · exact h.before hx ha
    · rcases old b v hb with hb | ⟨hb, rfl⟩
      · have := lt hb; omega
      · omega
  · rcases old a u ha with ha | ⟨ha, rfl⟩
    · rcases old b v hb with hb | ⟨hb, rfl⟩
      · exact h.dst a b u v hab ha hb
      · rw [valB_snoc]; exact hn a u ha
    · rcases old b v hb with hb | ⟨hb, rfl⟩
      · have := lt hb; omega
      · omega
  · rcases old b v hb with hb | ⟨hb, rfl⟩
    · rcases h.par b v hb with q | ⟨a, u, j, a1, a2, a3, a4⟩
      · exact .inl q
      · exact .inr ⟨a, u, j, up a1, a2, a3, by omega⟩
    · exact .inr ⟨k, x, i, up hx, rfl, hi, by omega⟩
  · have kl := lt hx
    rcases old a u ha with hq | ⟨hq, rfl⟩
    · by_cases c : a < k ∨ (a = k ∧ j < i)
      · obtain ⟨b, v, b1, b2, b3⟩ := h.clo a u j hq hj c
        exact ⟨b, v, up b1, b2, b3⟩
      · have e1 : a = k := by omega
        have e2 : j = i := by omega
        subst e1 e2
        rw [hq] at hx
        obtain rfl := Option.some.inj hx
        exact ⟨Q.length, u ++ [j], by simp, valB_snoc mul one u j, .inl rfl⟩
    · omega
theorem Bfs.next {Q : List (List Nat)} {k i : Nat} (h : Bfs mul one m Q k i) (hi : m ≤ i) : Bfs mul one m Q (k + 1) 0 := by
  refine ⟨h.zero, h.srt, h.dst, fun b v hb => ?_, fun a u j ha hj hlt => h.clo a u j ha hj (by omega)⟩
  rcases h.par b v hb with q | ⟨a, u, j, a1, a2, a3, a4⟩
  · exact .inl q
  · exact .inr ⟨a, u, j, a1, a2, a3, by omega⟩
/-- each word's value is in the queue under a word that is no later, or the word comes behind word k -/
theorem Bfs.least {Q : List (List Nat)} {k : Nat} (h : Bfs mul one m Q k 0) (l : Nat) : ∀ u : List Nat, u.length = l → (∀ j, j ∈ u → j < m) → (∃ (b : Nat) (v : List Nat), Q[b]? = some v ∧ valB mul one v = valB mul one u ∧ sle v u) ∨ (∃ x : List Nat, Q[k]? = some x ∧ slt x u) := by
  induction l with
  | zero =>
    intro u hu _
    obtain rfl := List.length_eq_zero_iff.1 hu
    exact .inl ⟨0, [], h.zero, rfl, .inl rfl⟩
  | succ l ih =>
    intro u hu hm
    have ne : u ≠ [] := fun e => by rw [e] at hu; simp at hu
    obtain ⟨p, i, rfl⟩ : ∃ p i, u = p ++ [i] := ⟨u.dropLast, u.getLast ne, (List.dropLast_concat_getLast ne).symm⟩
    have hi := hm i (by simp)
    rcases ih p (by simpa using hu) (fun j hj => hm j (by simp [hj])) with ⟨b, v, b1, b2, b3⟩ | ⟨x, x1, x2⟩
    · by_cases c : b < k
      · obtain ⟨b', v', c1, c2, c3⟩ := h.clo b v i b1 hi (.inl c)
        exact .inl ⟨b', v', c1, by rw [c2, b2, valB_snoc], sle_trans c3 (sle_snoc i b3)⟩
      · by_cases c2 : b = k
        · subst c2
          exact .inr ⟨v, b1, sle_slt b3 (slt_grow p i)⟩
        · obtain ⟨lb, _⟩ := List.getElem?_eq_some_iff.1 b1
          have hk : Q[k]? = some Q[k] := List.getElem?_eq_getElem (by omega)
          exact .inr ⟨Q[k], hk, slt_trans (h.srt k b _ v (by omega) hk b1) (sle_slt b3 (slt_grow p i))⟩
    · exact .inr ⟨x, x1, slt_trans x2 (slt_grow p i)⟩
/-- the word under which a value is met is the least one of this value -/
theorem Bfs.found {Q : List (List Nat)} {k : Nat} (h : Bfs mul one m Q k 0) {x u : List Nat} (hx : Q[k]? = some x) (hu : ∀ j, j ∈ u → j < m) (e : valB mul one x = valB mul one u) : sle x u := by
  rcases h.least u.length u rfl hu with ⟨b, v, b1, b2, b3⟩ | ⟨y, y1, y2⟩
  · by_cases c : b = k
    · subst c
      rw [b1] at hx
      obtain rfl := Option.some.inj hx
      exact b3
    · by_cases c2 : b < k
      · exact absurd (by rw [b2, e]) (h.dst b k v x c2 b1 hx)
      · exact absurd (by rw [b2, e]) (h.dst k b x v (by omega) hx b1)
  · rw [hx] at y1
    obtain rfl := Option.some.inj y1
    exact .inr y2
/-- the queue does not run dry before the value is met -/
theorem Bfs.wet {Q : List (List Nat)} {k : Nat} (h : Bfs mul one m Q k 0) (hk : Q[k]? = none) {u : List Nat} (hu : ∀ j, j ∈ u → j < m) : ∃ (b : Nat) (v : List Nat), Q[b]? = some v ∧ b < k ∧ valB mul one v = valB mul one u := by
  rcases h.least u.length u rfl hu with ⟨b, v, b1, b2, _⟩ | ⟨y, y1, _⟩
  · obtain ⟨lb, _⟩ := List.getElem?_eq_some_iff.1 b1
    have := List.getElem?_eq_none_iff.1 hk
    exact ⟨b, v, b1, by omega, b2⟩
  · rw [hk] at y1; cases y1
end
end Go.Proofs.Ytjfkompfkgjdaaa.G
end
section
/- No word of a diagram is shorter than its word, or before it. -/
namespace Go.Proofs.Ytjfkompfkgjdaaa.L
open Go.RowKit Go.Proofs.Ytjfkompfkgjdaaa.PC Go.Proofs.YtjfkompfkgjdaaaW.PrintWords Go.Proofs.YtjfkompfkgjdaaaW.PrintLast Go.Proofs.Ytjfkompfkgjdaaa.G
theorem hkL_dia {n i : Nat} (hn : n ≤ 10) (hi : i + 1 < n) : Dia n (hkL n i) :=
  ⟨by omega, hn, (hkL_lm hi).1, nc_iff.2 (ncf_congr (b := G.hk n i) (fun z hz => (hkL_lm hi).2 z hz) (hk_nc hi))⟩
theorem act_dia {n : Nat} (h0 : 0 < n) (hn : n ≤ 10) {w : List Nat} (hw : okN n w) : Dia n (actW n w (idL n)) := by
  induction w with
  | nil => exact idL_dia h0 hn
  | cons i w ih =>
    have hi := hw i List.mem_cons_self
    exact dia_prod (hkL_dia hn hi) (ih (fun j hj => hw j (List.mem_cons_of_mem _ hj)))
def lexLe : List Nat → List Nat → Prop
  | [], _ => True
  | _ :: _, [] => True
  | a :: w, b :: l => a < b ∨ (a = b ∧ lexLe w l)
theorem wd_len {n : Nat} {d : List Int} {w l : List Nat} (h : Wd n d w) (hl : okN n l) (e : actW n l (idL n) = d) : w.length ≤ l.length := by
  have a := (wd_val h).2.2
  have b := act_hs hl (idL_lm n)
  rw [e, hs_idL] at b
  omega
theorem wd_lex {n : Nat} (h0 : 0 < n) (hn : n ≤ 10) {d : List Int} {w : List Nat} (h : Wd n d w) : ∀ l, okN n l → actW n l (idL n) = d → w.length = l.length → lexLe w l := by
  induction h with
  | nil => intro l _ _ _; exact trivial
  | @cons d c i w hd hi hc hm hg he hw ih =>
    intro l hl e hlen
    cases l with
    | nil => exact trivial
    | cons j l =>
      have hj := hl j List.mem_cons_self
      have hl' : okN n l := fun x hx => hl x (List.mem_cons_of_mem _ hx)
      have hD := act_dia h0 hn hl'
      have a := (wd_val (.cons hd hi hc hm hg he hw)).2.2
      have b := act_hs hl' (idL_lm n)
      rw [hs_idL] at b
      have e' : prodL n (hkL n j) (actW n l (idL n)) = d := e
      have s := hs_le hD.lm hj e'
      simp only [List.length_cons] at hlen a
      have s2 : HS n (fn d) = HS n (fn (actW n l (idL n))) + 2 := by omega
      have g := good_got hD hj e' s2
      show i < j ∨ (i = j ∧ lexLe w l)
      by_cases q : i < j
      · exact .inl q
      · have q2 : i = j := by
          refine Classical.byContradiction fun ne => ?_
          exact hm j (by omega) g.cup
        subst q2
        have u := good_uniq hd hi hg.1 he hg.2 hD e' s2
        exact .inr ⟨rfl, ih l hl' u.symm (by omega)⟩
/-! ### Hooks of a word -/
theorem ints_len (v : List Nat) : (ints v).length = v.length := by simp [ints]
theorem wordP_val {n : Nat} {d : List Int} (hd : Dia n d) : ∃ w, Wd n d w ∧ w.length ≤ 200 ∧ Ev (fun k => plait_Word.f k d) (ints w, 0) := by
  obtain ⟨w, w1, w2⟩ := word_val hd
  have a := (wd_val w1).2.2
  have b := hs_20 hd.pos hd.lim (fn d)
  exact ⟨w, w1, by omega, Ev.congr (fun k => rfl) (Ev.bind (dia_yes hd).1 (Ev.congr (fun k => by rw [if_pos rfl]) (Ev.bind w2 (Ev.now _))))⟩
end Go.Proofs.Ytjfkompfkgjdaaa.L
end
section
/- Where a diagram stands in the specification's table: its brackets, read as a number. -/
namespace Go.Proofs.Ytjfkompfkgjdaaa.L
open Go.RowKit Go.Proofs.Ytjfkompfkgjdaaa.PC Go.Proofs.YtjfkompfkgjdaaaW.PrintWords Go.Proofs.YtjfkompfkgjdaaaW.PrintLast Go.Proofs.Ytjfkompfkgjdaaa.G
def plc (n : Nat) (l : List Int) : Nat → Nat
  | 0 => 0
  | i + 1 => 2 * plc n l i + (if Db n l i < i then 1 else 0)
theorem plc_lt (n : Nat) (l : List Int) (i : Nat) : plc n l i < 2 ^ i := by
  induction i with
  | zero => simp [plc]
  | succ i ih =>
    simp only [plc]
    rw [Nat.pow_succ]
    split <;> omega
theorem plc_bits {n : Nat} {a b : List Int} (i : Nat) : plc n a i = plc n b i → ∀ x, x < i → (Db n a x < x ↔ Db n b x < x) := by
  induction i with
  | zero => intro _ x hx; omega
  | succ i ih =>
    intro h x hx
    simp only [plc] at h
    have e : (Db n a i < i ↔ Db n b i < i) ∧ plc n a i = plc n b i := by
      by_cases c : Db n a i < i
      · by_cases d : Db n b i < i
        · rw [if_pos c, if_pos d] at h; exact ⟨⟨fun _ => d, fun _ => c⟩, by omega⟩
        · rw [if_pos c, if_neg d] at h; omega
      · by_cases d : Db n b i < i
        · rw [if_neg c, if_pos d] at h; omega
        · rw [if_neg c, if_neg d] at h; exact ⟨⟨fun f => absurd f c, fun f => absurd f d⟩, by omega⟩
    by_cases q : x = i
    · subst q; exact e.1
    · exact ih e.2 x (by omega)
theorem place_inj {n : Nat} {a b : List Int} (ha : Dia n a) (hb : Dia n b) (h : plc n a (2 * n) = plc n b (2 * n)) : a = b := dia_brk ha hb (plc_bits (2 * n) h)
theorem place_l0 {n : Nat} (hn : n ≤ 10) {l : List Int} (h : LM n l) (c : Nat) : ∀ i, i + c = 2 * n → Ev (fun k => pomaderef07_place.l0 k l (n : Int) (plc n l i : Int) (i : Int)) (plc n l (2 * n) : Int) := by
  have hl := h.len
  have e2 : wrap64 (2 * (n : Int)) = ((2 * n : Nat) : Int) := by rw [pw64 (by omega) (by omega)]; omega
  induction c with
  | zero =>
    intro i hi
    obtain rfl : i = 2 * n := by omega
    refine Ev.step (f := fun _ => some (plc n l (2 * n) : Int)) (fun k => ?_) (Ev.now _)
    simp only [pomaderef07_place.l0]
    rw [if_neg (by rw [e2]; omega)]
  | succ c ih =>
    intro i hi
    have hi2 : i < 2 * n := by omega
    have bi := L.bo_lt hi2
    have bb := L.bo_bo hi2
    have hm := (h.mat _ bi).1
    have hlt := plc_lt n l i
    have hp : plc n l i < 1048576 := Nat.lt_of_lt_of_le hlt (Nat.pow_le_pow_right (by omega) (show i ≤ 20 by omega))
    refine Ev.step (f := fun k => pomaderef07_place.j1 k l (n : Int) (plc n l i : Int) (i : Int) (L.bo n i : Int)) (fun k => ?_) ?_
    · simp only [pomaderef07_place.l0]
      rw [if_pos (by rw [e2]; omega)]
      unfold L.bo
      by_cases c1 : i < n
      · rw [if_neg (by omega), if_pos c1]
      · rw [if_pos (by omega), if_neg c1, pw64 (x := 3 * (n : Int)) (by omega) (by omega), pw64 (x := 3 * (n : Int) - 1) (by omega) (by omega), pw64 (by omega) (by omega), show (3 * (n : Int) - 1 - (i : Int)) = ((3 * n - 1 - i : Nat) : Int) by omega]
    · have g := ih (i + 1) (by omega)
      simp only [plc] at g
      have hD : Db n l i = L.bo n (fn l (L.bo n i)) := rfl
      refine Ev.step (fun k => ?_) g
      simp only [pomaderef07_place.j1]
      rw [if_pos (by omega), if_pos (by omega), h.nn _ bi, refborder (by omega) hm, Option.bind_some, refborder (by omega) bi, Option.bind_some, bb, ← hD]
      by_cases q : Db n l i < i
      · rw [if_pos (by omega), if_pos q, pw64 (x := 2 * (plc n l i : Int)) (by omega) (by omega), pw64 (x := 2 * (plc n l i : Int) + 1) (by omega) (by omega), pw64 (by omega) (by omega)]
        rfl
      · rw [if_neg (by omega), if_neg q, pw64 (x := 2 * (plc n l i : Int)) (by omega) (by omega), pw64 (by omega) (by omega)]
        rfl
theorem place_val {n : Nat} {l : List Int} (h : Dia n l) : Ev (fun k => pomaderef07_place.f k l) (plc n l (2 * n) : Int) := by
  have hl := h.lm.len
  have hn := h.lim
  have ew : wrap64 ((l.length : Int) / 2) = (n : Int) := by rw [pw64 (by omega) (by omega)]; omega
  refine Ev.congr (fun k => ?_) (place_l0 hn h.lm (2 * n) 0 (by omega))
  unfold pomaderef07_place.f
  rw [ew]
  rfl
/-! ### words that grow at their end -/
theorem val_from {n : Nat} {w : List Nat} (hw : okN n w) : ∀ {l : List Int}, LM n l → w.foldl (fun x i => prodL n x (hkL n i)) l = prodL n l (actW n w (idL n)) := by
  induction w with
  | nil => intro l h; exact (prodL_id h).1.symm
  | cons i w ih =>
    intro l h
    have hi := hw i List.mem_cons_self
    have hw' : okN n w := fun j hj => hw j (List.mem_cons_of_mem _ hj)
    show w.foldl (fun x i => prodL n x (hkL n i)) (prodL n l (hkL n i)) = _
    rw [ih hw' (prodL_lm h (hkL_lm hi).1)]
    exact (prodL_assoc h (hkL_lm hi).1 (act_lm hw' (idL_lm n))).1
theorem val_act {n : Nat} {w : List Nat} (hw : okN n w) : valB (fun x i => prodL n x (hkL n i)) (idL n) w = actW n w (idL n) := by
  show w.foldl (fun x i => prodL n x (hkL n i)) (idL n) = _
  rw [val_from hw (idL_lm n)]
  exact (prodL_id (act_lm hw (idL_lm n))).2.1
theorem lex_conf : ∀ w x : List Nat, lexLe w x → lexLt x w → w.length = x.length → False
  | [], [], _, h, _ => h
  | [], _ :: _, _, _, h => by simp at h
  | _ :: _, [], _, _, h => by simp at h
  | a :: w, b :: x, h, k, hl => by
    have h : a < b ∨ (a = b ∧ lexLe w x) := h
    have k : b < a ∨ (b = a ∧ lexLt x w) := k
    rcases h with h | ⟨_, h⟩ <;> rcases k with k | ⟨_, k⟩
    · omega
    · omega
    · omega
    · exact lex_conf w x h k (by simpa using hl)
/-- the least word of a diagram is its word -/
theorem wd_least {n : Nat} (h0 : 0 < n) (hn : n ≤ 10) {d : List Int} {w x : List Nat} (h : Wd n d w) (hx : okN n x) (e : actW n x (idL n) = d) (hs : sle x w) : x = w := by
  rcases hs with hs | hs
  · exact hs
  · have l := wd_len h hx e
    rcases hs with hs | ⟨hs, hl⟩
    · omega
    · exact (lex_conf w x (wd_lex h0 hn h x hx e hs.symm) hl hs.symm).elim
end Go.Proofs.Ytjfkompfkgjdaaa.L
end
section
/- The specification's Word: its search by breadth meets the first shortest word. -/
namespace Go.Proofs.Ytjfkompfkgjdaaa.L
open Go.RowKit Go.Proofs.Ytjfkompfkgjdaaa.PC Go.Proofs.YtjfkompfkgjdaaaW.PrintWords Go.Proofs.YtjfkompfkgjdaaaW.PrintLast Go.Proofs.Ytjfkompfkgjdaaa.G
def ent (n : Nat) (w : List Nat) : S71 := ⟨actW n w (idL n), ints w⟩
abbrev MB (n : Nat) : List Int → Nat → List Int := fun x i => prodL n x (hkL n i)
theorem ent_rd {n : Nat} {Q : List (List Nat)} {k : Nat} {x : List Nat} (h : Q[k]? = some x) : rd_T71 (Q.map (ent n)) (k : Int) = ent n x := by
  unfold rd_T71
  rw [Int.toNat_natCast, List.getD_eq_getElem?_getD, List.getElem?_map, h]; rfl
structure Src (n : Nat) (d : List Int) (Q : List (List Nat)) (T : List Bool) (k i : Nat) : Prop where
  bfs : Bfs (MB n) (idL n) (n - 1) Q k i
  ok : ∀ w, w ∈ Q → okN n w
  tl : T.length = 2 ^ (2 * n)
  tm : ∀ p, p < 2 ^ (2 * n) → (bM T p ↔ ∃ w, w ∈ Q ∧ plc n (actW n w (idL n)) (2 * n) = p)
  cnt : T.count false + Q.length = 2 ^ (2 * n)
theorem Src.mem {n k i b : Nat} {d : List Int} {Q : List (List Nat)} {T : List Bool} (_ : Src n d Q T k i) {v : List Nat} (h : Q[b]? = some v) : v ∈ Q := List.mem_of_getElem? h
theorem pow20 {n : Nat} (hn : n ≤ 10) : 2 ^ (2 * n) ≤ 1048576 := Nat.pow_le_pow_right (by omega) (show 2 * n ≤ 20 by omega)
theorem cap_ok {x : List Nat} (h : x.length ≤ 1000000) (i : Nat) : strings_Builder_Len.f (ints x) (i : Int) = some (ints (x ++ [i])) := by
  unfold strings_Builder_Len.f
  rw [if_pos (by rw [ints_len]; exact h)]
  unfold ints; simp
theorem word_l1 {n : Nat} (h0 : 0 < n) (hn : n ≤ 10) {d : List Int} {k : Nat} {x : List Nat} {r : List Int × Int} (hcap : ∀ i : Nat, strings_Builder_Len.f (ints x) (i : Int) = some (ints (x ++ [i]))) (c : Nat) : ∀ (i : Nat) (Q : List (List Nat)) (T : List Bool), i + c = n - 1 → Src n d Q T k i → Q[k]? = some x → (∀ a v, a ≤ k → Q[a]? = some v → actW n v (idL n) ≠ d) →
    (∀ Q' T', Src n d Q' T' (k + 1) 0 → (∀ a v, a ≤ k → Q'[a]? = some v → actW n v (idL n) ≠ d) → Ev (fun q => pomaderef07_Word.l0 q d (n : Int) T' (Q'.map (ent n)) ((k + 1 : Nat) : Int)) r) →
    Ev (fun q => pomaderef07_Word.l1 q d (n : Int) T (Q.map (ent n)) (k : Int) (i : Int) (actW n x (idL n)) (ints x)) r := by
  induction c with
  | zero =>
    intro i Q T hi hS hx hne nx
    have hk : k < Q.length := (List.getElem?_eq_some_iff.1 hx).1
    have p20 := pow20 hn
    have hc := hS.cnt
    refine Ev.step (fun q => ?_) (nx Q T ⟨hS.bfs.next (by omega), hS.ok, hS.tl, hS.tm, hS.cnt⟩ hne)
    simp only [pomaderef07_Word.l1]
    rw [if_neg (by rw [pw64 (by omega) (by omega)]; omega), pw64 (by omega) (by omega)]
    rfl
  | succ c ih =>
    intro i Q T hi hS hx hne nx
    have hk : k < Q.length := (List.getElem?_eq_some_iff.1 hx).1
    have p20 := pow20 hn
    have hcn := hS.cnt
    have hi1 : i + 1 < n := by omega
    have okx := hS.ok x (hS.mem hx)
    have dx := act_dia h0 hn okx
    have oks : okN n (x ++ [i]) := fun y hy => by
      rcases List.mem_append.1 hy with hy | hy
      · exact okx y hy
      · rcases List.mem_cons.1 hy with rfl | hy
        · exact hi1
        · cases hy
    have ey : prodL n (actW n x (idL n)) (hkL n i) = actW n (x ++ [i]) (idL n) := by
      rw [← val_act oks, valB_snoc, val_act okx]
    have dy := act_dia h0 hn oks
    have pl := plc_lt n (actW n (x ++ [i]) (idL n)) (2 * n)
    have hp := place_val dy
    have e1 : wrap64 ((i : Int) + 1) = ((i + 1 : Nat) : Int) := by rw [pw64 (by omega) (by omega)]; rfl
    refine Ev.step (f := fun q => (pomaderef07_Hook.f q (n : Int) (i : Int)).bind fun t411 => ((pomaderef07_product.f q (actW n x (idL n)) t411).bind fun bt414 => ((pomaderef07_place.f q bt414.1).bind fun t418 => (if 0 ≤ t418 then (if t418 < (T.length : Int) then (if rdOf false T t418 = true then (pomaderef07_Word.l1 q d (n : Int) T (Q.map (ent n)) (k : Int) ((i + 1 : Nat) : Int) (actW n x (idL n)) (ints x)) else ((pomaderef07_place.f q bt414.1).bind fun t420 => (if 0 ≤ t420 then (if t420 < (T.length : Int) then ((strings_Builder_Len.f (ints x) (i : Int)).bind fun t422 => (if (Q.map (ent n)).length < 2932031007402 then (pomaderef07_Word.l1 q d (n : Int) (T.set (t420 : Int).toNat true) ((Q.map (ent n)) ++ [(⟨bt414.1, t422⟩ : S71)]) (k : Int) ((i + 1 : Nat) : Int) (actW n x (idL n)) (ints x)) else (none))) else (none)) else (none)))) else (none)) else (none))))) (fun q => ?_) ?_
    · simp only [pomaderef07_Word.l1]
      rw [e1, if_pos (by omega)]
    refine Ev.bind (refhook_ev (by omega) hi1) ?_
    refine Ev.bind (ref_product (by omega) dx.lm (hkL_lm hi1).1) ?_
    show Ev (fun q => (pomaderef07_place.f q (prodL n (actW n x (idL n)) (hkL n i))).bind _) r
    rw [ey]
    refine Ev.bind hp ?_
    have tb : rdOf false T ((plc n (actW n (x ++ [i]) (idL n)) (2 * n) : Nat) : Int) = true ↔ bM T (plc n (actW n (x ++ [i]) (idL n)) (2 * n)) := by
      unfold rdOf bM; rw [Int.toNat_natCast]
    have tl := hS.tl
    have em : MB n (valB (MB n) (idL n) x) i = actW n (x ++ [i]) (idL n) := by
      have e := valB_snoc (MB n) (idL n) x i
      rw [← e]; exact val_act oks
    by_cases m : bM T (plc n (actW n (x ++ [i]) (idL n)) (2 * n))
    · obtain ⟨v, hv, ev⟩ := (hS.tm _ pl).1 m
      have eq := place_inj (act_dia h0 hn (hS.ok v hv)) dy ev
      obtain ⟨b, hb⟩ := List.getElem?_of_mem hv
      have st : Src n d Q T k (i + 1) := ⟨hS.bfs.met hx hb (by rw [em, val_act (hS.ok v hv), eq]), hS.ok, hS.tl, hS.tm, hS.cnt⟩
      refine Ev.congr (fun q => ?_) (ih (i + 1) Q T (by omega) st hx hne nx)
      rw [if_pos (by omega), if_pos (by omega), if_pos (tb.2 m)]
    · have hn2 : ∀ (b : Nat) (v : List Nat), Q[b]? = some v → valB (MB n) (idL n) v ≠ MB n (valB (MB n) (idL n) x) i := fun b v hb e => by
        have hv := hS.mem hb
        rw [em, val_act (hS.ok v hv)] at e
        exact m ((hS.tm _ pl).2 ⟨v, hv, by rw [e]⟩)
      have up : ∀ (a : Nat), a < Q.length → (Q ++ [x ++ [i]])[a]? = Q[a]? := fun a ha => List.getElem?_append_left ha
      have cs := count_set T (plc n (actW n (x ++ [i]) (idL n)) (2 * n)) (by omega) (by unfold bM at m; simpa using m)
      have st : Src n d (Q ++ [x ++ [i]]) (T.set (plc n (actW n (x ++ [i]) (idL n)) (2 * n)) true) k (i + 1) := by
        refine ⟨hS.bfs.new (by omega) hx hn2, fun w hw => ?_, by simpa using tl, fun p hp => ?_, by simp only [List.length_append, List.length_cons, List.length_nil]; omega⟩
        · rcases List.mem_append.1 hw with hw | hw
          · exact hS.ok w hw
          · rcases List.mem_cons.1 hw with rfl | hw
            · exact oks
            · cases hw
        · have g := getD_set T (plc n (actW n (x ++ [i]) (idL n)) (2 * n)) p (by omega)
          unfold bM
          rw [g]
          constructor
          · rintro (h | h)
            · obtain ⟨w, w1, w2⟩ := (hS.tm p hp).1 h
              exact ⟨w, by simp [w1], w2⟩
            · exact ⟨x ++ [i], by simp, h.symm⟩
          · rintro ⟨w, w1, w2⟩
            rcases List.mem_append.1 w1 with w1 | w1
            · exact .inl ((hS.tm p hp).2 ⟨w, w1, w2⟩)
            · rcases List.mem_cons.1 w1 with rfl | w1
              · exact .inr w2.symm
              · cases w1
      have g := ih (i + 1) _ _ (by omega) st (by rw [up k hk]; exact hx) (fun a v ha hv => hne a v ha (by rw [← up a (by omega)]; exact hv)) nx
      refine Ev.congr (f := fun q => (pomaderef07_place.f q (actW n (x ++ [i]) (idL n))).bind fun t420 => (if 0 ≤ t420 then (if t420 < (T.length : Int) then ((strings_Builder_Len.f (ints x) (i : Int)).bind fun t422 => (if (Q.map (ent n)).length < 2932031007402 then (pomaderef07_Word.l1 q d (n : Int) (T.set (t420 : Int).toNat true) ((Q.map (ent n)) ++ [(⟨actW n (x ++ [i]) (idL n), t422⟩ : S71)]) (k : Int) ((i + 1 : Nat) : Int) (actW n x (idL n)) (ints x)) else (none))) else (none)) else (none))) (fun q => ?_) ?_
      · rw [if_pos (by omega), if_pos (by omega), if_neg (fun f => m (tb.1 f))]
      · refine Ev.bind hp ?_
        refine Ev.congr (fun q => ?_) g
        rw [if_pos (by omega), if_pos (by omega), hcap i, Option.bind_some, if_pos (by rw [List.length_map]; omega), Int.toNat_natCast, List.map_append]
        rfl
theorem word_l0 {n : Nat} (h0 : 0 < n) (hn : n ≤ 10) {d : List Int} (hd : Dia n d) {w : List Nat} (hw : Wd n d w) (f : Nat) : ∀ (k : Nat) (Q : List (List Nat)) (T : List Bool), k + f = 2 ^ (2 * n) + 1 → Src n d Q T k 0 → (∀ a v, a < k → Q[a]? = some v → actW n v (idL n) ≠ d) →
    Ev (fun q => pomaderef07_Word.l0 q d (n : Int) T (Q.map (ent n)) (k : Int)) (ints w, 0) := by
  obtain ⟨okw, aw, _⟩ := wd_val hw
  have hm : ∀ {u : List Nat}, okN n u → ∀ j, j ∈ u → j < n - 1 := fun h j hj => by have := h j hj; omega
  have inq : ∀ (k : Nat) (Q : List (List Nat)) (T : List Bool), Src n d Q T k 0 → (∀ a v, a < k → Q[a]? = some v → actW n v (idL n) ≠ d) → ∃ x, Q[k]? = some x := fun k Q T hS hne => by
    cases hq : Q[k]? with
    | some x => exact ⟨x, rfl⟩
    | none =>
      obtain ⟨b, v, b1, b2, b3⟩ := hS.bfs.wet hq (hm okw)
      rw [val_act (hS.ok v (hS.mem b1)), val_act okw, aw] at b3
      exact absurd b3 (hne b v b2 b1)
  induction f with
  | zero =>
    intro k Q T hf hS hne
    obtain ⟨x, hx⟩ := inq k Q T hS hne
    have := (List.getElem?_eq_some_iff.1 hx).1
    have := hS.cnt
    omega
  | succ f ih =>
    intro k Q T hf hS hne
    obtain ⟨x, hx⟩ := inq k Q T hS hne
    have hk := (List.getElem?_eq_some_iff.1 hx).1
    have hc := hS.cnt
    have p20 := pow20 hn
    have okx := hS.ok x (hS.mem hx)
    have dx := act_dia h0 hn okx
    have l1 := dx.lm.len
    have l2 := hd.lm.len
    have er := ent_rd (n := n) hx
    refine Ev.step (f := fun q => (pomaderef07_same.f q (actW n x (idL n)) d).bind fun t410 => (if t410 = true then (some (ints x, 0)) else (pomaderef07_Word.l1 q d (n : Int) T (Q.map (ent n)) (k : Int) 0 (actW n x (idL n)) (ints x)))) (fun q => ?_) ?_
    · simp only [pomaderef07_Word.l0]
      rw [if_pos (by omega), if_pos (by rw [List.length_map]; omega), er]
      rfl
    · refine Ev.bind (refsame_ev (by omega) (by omega)) ?_
      by_cases e : actW n x (idL n) = d
      · have s := hS.bfs.found hx (u := w) (hm okw) (by rw [val_act okx, val_act okw, e, aw])
        have q := wd_least h0 hn hw okx e s
        exact Ev.congr (fun _ => by rw [if_pos (decide_eq_true e), q]) (Ev.now _)
      · have hxl : x.length ≤ 1000000 := by
          obtain ⟨u, u1, u2, _⟩ := wordP_val dx
          obtain ⟨ou, au, _⟩ := wd_val u1
          have s := hS.bfs.found hx (u := u) (hm ou) (by rw [val_act okx, val_act ou, au])
          rcases s with s | s
          · rw [s]; omega
          · rcases s with s | s <;> omega
        have g := word_l1 h0 hn (d := d) (k := k) (x := x) (r := (ints w, 0)) (cap_ok hxl) (n - 1) 0 Q T (by omega) hS hx (fun a v ha hv => by
          by_cases c : a = k
          · subst c
            rw [hx] at hv
            obtain rfl := Option.some.inj hv
            exact e
          · exact hne a v (by omega) hv) (fun Q' T' hS' hne' => ih (k + 1) Q' T' (by omega) hS' (fun a v ha hv => hne' a v (by omega) hv))
        exact Ev.congr (fun _ => by rw [if_neg (by rw [decide_eq_false e]; decide)]; rfl) g
theorem shl_pow {n : Nat} (hn : n ≤ 10) : shl .i64 1 ((2 * n : Nat) : Int) = ((2 ^ (2 * n) : Nat) : Int) := by
  have p20 := pow20 hn
  unfold shl
  rw [i64_w, Int.toNat_natCast, Nat.min_eq_left (show 2 * n ≤ IntKind.i64.bits by show 2 * n ≤ 64; omega), Int.one_mul]
  have e : (2 : Int) ^ (2 * n) = ((2 ^ (2 * n) : Nat) : Int) := by rw [Int.natCast_pow]; rfl
  rw [e]
  clear e
  generalize 2 ^ (2 * n) = N at p20 ⊢
  exact pw64 (by omega) (by omega)
theorem refword_val {n : Nat} {d : List Int} (hd : Dia n d) {w : List Nat} (hw : Wd n d w) : Ev (fun q => pomaderef07_Word.f q d) (ints w, 0) := by
  have hn := hd.lim
  have h0 := hd.pos
  have hl := hd.lm.len
  have p20 := pow20 hn
  have ew : wrap64 ((d.length : Int) / 2) = (n : Int) := by rw [pw64 (by omega) (by omega)]; omega
  have e2 : wrap64 (2 * (n : Int)) = ((2 * n : Nat) : Int) := by rw [pw64 (by omega) (by omega)]; omega
  have di := idL_dia h0 hn
  have pl := plc_lt n (idL n) (2 * n)
  have hp := place_val di
  have hrep : (List.replicate (2 ^ (2 * n)) false).length = 2 ^ (2 * n) := by simp
  have nb : ∀ p, (List.replicate (2 ^ (2 * n)) false).getD p false = false := fun p => by
    rw [List.getD_eq_getElem?_getD, List.getElem?_replicate]; split <;> rfl
  have cs := count_set (List.replicate (2 ^ (2 * n)) false) (plc n (idL n) (2 * n)) (by rw [hrep]; exact pl) (nb _)
  have st : Src n d [[]] ((List.replicate (2 ^ (2 * n)) false).set (plc n (idL n) (2 * n)) true) 0 0 := by
    refine ⟨Bfs.start, fun w hw => ?_, by simp, fun p hp => ?_, ?_⟩
    · rcases List.mem_cons.1 hw with rfl | hw
      · exact fun i hi => (by cases hi)
      · cases hw
    · have g := getD_set (List.replicate (2 ^ (2 * n)) false) (plc n (idL n) (2 * n)) p (by rw [hrep]; exact pl)
      unfold bM
      rw [g, nb p]
      constructor
      · rintro (h | h)
        · cases h
        · exact ⟨[], by simp, h.symm⟩
      · rintro ⟨w, w1, w2⟩
        rcases List.mem_cons.1 w1 with rfl | w1
        · exact .inr w2.symm
        · cases w1
    · simp only [List.length_cons, List.length_nil]
      have : (List.replicate (2 ^ (2 * n)) false).count false = 2 ^ (2 * n) := List.count_replicate_self
      omega
  have g := word_l0 h0 hn hd hw (2 ^ (2 * n) + 1) 0 [[]] _ (by omega) st (fun a v ha _ => by omega)
  refine Ev.congr (fun q => rfl) (Ev.bind (dia_ref hd) ?_)
  refine Ev.congr (f := fun q => (pomaderef07_Identity.f q (n : Int)).bind fun t399 => ((some (([(⟨t399, ([] : List Int)⟩ : S71)] : List (S71)) : List (S71))).bind fun y402 => (if 0 < (y402.length : Int) then ((pomaderef07_place.f q ((rd_T71 y402 0).f0)).bind fun t406 => (if 0 ≤ t406 then (if t406 < ((List.replicate (2 ^ (2 * n)) false).length : Int) then (pomaderef07_Word.l0 q d (n : Int) ((List.replicate (2 ^ (2 * n)) false).set (t406 : Int).toNat true) y402 0) else (none)) else (none))) else (none)))) (fun q => ?_) ?_
  · rw [if_pos rfl, ew, e2, shl_pow hn, if_pos (by omega), if_pos (by omega), Int.toNat_natCast, if_pos (by omega), Option.bind_some]
  · refine Ev.bind (refidentity_ev (by omega)) ?_
    refine Ev.congr (f := fun q => (pomaderef07_place.f q (idL n)).bind fun t406 => (if 0 ≤ t406 then (if t406 < ((List.replicate (2 ^ (2 * n)) false).length : Int) then (pomaderef07_Word.l0 q d (n : Int) ((List.replicate (2 ^ (2 * n)) false).set (t406 : Int).toNat true) [(⟨idL n, ([] : List Int)⟩ : S71)] 0) else (none)) else (none))) (fun q => rfl) ?_
    refine Ev.bind hp ?_
    refine Ev.congr (fun q => ?_) g
    rw [if_pos (by omega), if_pos (by rw [hrep]; omega), Int.toNat_natCast]
    rfl
end Go.Proofs.Ytjfkompfkgjdaaa.L
end
section
/- Plait: PlaitWords: Word returns the word, or the error, of the specification. -/
namespace Go.Proofs.Ytjfkompfkgjdaaa.L
open Go.RowKit Go.Proofs.Ytjfkompfkgjdaaa.PC Go.Proofs.YtjfkompfkgjdaaaW.PrintWords Go.Proofs.YtjfkompfkgjdaaaW.PrintLast Go.Proofs.Ytjfkompfkgjdaaa.G
theorem words_both (d : List Int) : ∃ r : List Int × Int, r.1.length ≤ 200 ∧ Ev (fun k => plait_Word.f k d) r ∧ Ev (fun k => pomaderef07_Word.f k d) r := by
  obtain ⟨e, h1, h2, _⟩ := dia_both d
  by_cases z : e = 0
  · subst z
    obtain ⟨n, hd⟩ := dia_of h2
    obtain ⟨w, w1, w2, w3⟩ := wordP_val hd
    exact ⟨(ints w, 0), by show (ints w).length ≤ 200; rw [ints_len]; exact w2, w3, refword_val hd w1⟩
  · exact ⟨([], e), by simp, Ev.congr (fun k => rfl) (Ev.bind h1 (Ev.congr (fun k => by rw [if_neg z]) (Ev.now _))), Ev.congr (fun k => rfl) (Ev.bind h2 (Ev.congr (fun k => by rw [if_neg z]) (Ev.now _)))⟩
theorem PlaitWords_pure : pomadelaw07_PlaitWords.Pure := by
  intro l _ _ _
  refine Ev.rounds (g := fun k => pomadelaw07_PlaitWords.f k l) ?_
  have all : ∀ x, Ev (fun k => pomadelaw07_PlaitWords.j0 k l x) true := fun x => by
    cases x with
    | true => exact Ev.step (f := fun _ => some true) (fun k => by simp only [pomadelaw07_PlaitWords.j0]; rw [if_pos trivial]; rfl) (Ev.now _)
    | false =>
      obtain ⟨r, r0, r1, r2⟩ := words_both l
      refine Ev.step (f := fun k => (plait_Word.f k l).bind fun bt430 => ((pomaderef07_Word.f k l).bind fun bt434 => ((pomadelaw07_same.f k bt430.1 bt434.1).bind fun t438 => (if t438 = true then (if bt430.2 = bt434.2 then ((pomadelaw07_alive.f).bind fun t439 => (some t439)) else (some false)) else (some false))))) (fun k => by simp only [pomadelaw07_PlaitWords.j0]; rw [if_neg (by decide)]) ?_
      refine Ev.bind r1 ?_
      refine Ev.bind r2 ?_
      refine Ev.bind (same_ev (show r.1.length ≤ 1000000 by omega)) ?_
      exact Ev.congr (f := fun _ => some true) (fun k => by rw [if_pos rfl, if_pos rfl]; rfl) (Ev.now _)
  by_cases c : (l.length : Int) > 50
  · exact Ev.congr (fun k => by unfold pomadelaw07_PlaitWords.f; rw [if_pos c]) (all true)
  · by_cases c2 : (l.length : Int) > 16
    · obtain ⟨e, _, h2, _⟩ := dia_both l
      refine Ev.congr (f := fun k => (pomaderef07_Diagram.f k l).bind fun t428 => (pomadelaw07_PlaitWords.j0 k l (t428 == 0))) (fun k => by unfold pomadelaw07_PlaitWords.f; rw [if_neg c, if_pos c2]) (Ev.bind h2 (all _))
    · exact Ev.congr (fun k => by unfold pomadelaw07_PlaitWords.f; rw [if_neg c, if_neg c2]) (all false)
end Go.Proofs.Ytjfkompfkgjdaaa.L
namespace Go.Proofs.Ytjfkompfkgjdaaa.Pure
theorem PlaitWords : Go.Proofs.Ytjfkompfkgjdaaa.PC.pomadelaw07_PlaitWords.Pure := Go.Proofs.Ytjfkompfkgjdaaa.L.PlaitWords_pure
end Go.Proofs.Ytjfkompfkgjdaaa.Pure
end
