/- What a diagram is, by the program (a pile along the border) and by the specification (no two pairs cross). -/
import Derived.Test.YtjfkompfkgjdaaaLProd
import Derived.Test.YtjfkompfkgjdaaaLPart
import Derived.Test.YtjfkompfkgjdaaaMPile
import Derived.Test.YtjfkompfkgjdaaaPCg2
import Derived.Test.YtjfkompfkgjdaaaPCg3
namespace Go.Proofs.Ytjfkompfkgjdaaa.L
open Go.RowKit Go.Proofs.Ytjfkompfkgjdaaa.PC Go.Proofs.YtjfkompfkgjdaaaW.PrintWords Go.Proofs.YtjfkompfkgjdaaaW.PrintLast Go.Proofs.Ytjfkompfkgjdaaa.G
/-- where a point lies along the border; and which point lies there -/
def bo (n i : Nat) : Nat := if i < n then i else 3 * n - 1 - i
theorem bo_lt {n i : Nat} (h : i < 2 * n) : bo n i < 2 * n := by unfold bo; split <;> omega
theorem bo_bo {n i : Nat} (h : i < 2 * n) : bo n (bo n i) = i := by
  unfold bo
  by_cases c : i < n
  · rw [if_pos c, if_pos c]
  · rw [if_neg c, if_neg (by omega)]; omega
theorem bo_inj {n i j : Nat} (hi : i < 2 * n) (hj : j < 2 * n) (h : bo n i = bo n j) : i = j := by rw [← bo_bo hi, h, bo_bo hj]
def bl (n : Nat) : List Int := (List.range (2 * n)).map (fun i => (bo n i : Int))
theorem bl_rd {n z : Nat} (h : z < 2 * n) : rd (bl n) (z : Int) = (bo n z : Int) := rd_range _ _ _ h
theorem bl_len (n : Nat) : (bl n).length = 2 * n := by simp [bl]
theorem border_l1 {n : Nat} (hn : n ≤ 1000) (d : Nat) : ∀ j, j + d = n → Ev (fun k => plait_border.l1 k (n : Int) ((List.range (n + j)).map (fun i => (bo n i : Int))) (n : Int) (j : Int)) (bl n) := by
  induction d with
  | zero =>
    intro j hj
    obtain rfl : j = n := by omega
    refine Ev.step (f := fun _ => some (bl j)) (fun k => ?_) (Ev.now _)
    simp only [plait_border.l1]
    rw [if_neg (by omega), show j + j = 2 * j by omega]; rfl
  | succ d ih =>
    intro j hj
    refine Ev.step (fun k => ?_) (ih (j + 1) (by omega))
    simp only [plait_border.l1]
    rw [if_pos (by omega), if_pos (by simp; omega), pw64 (x := 2 * (n : Int)) (by omega) (by omega), pw64 (x := 2 * (n : Int) - 1) (by omega) (by omega), pw64 (x := 2 * (n : Int) - 1 - (j : Int)) (by omega) (by omega), pw64 (by omega) (by omega)]
    rw [show n + (j + 1) = (n + j) + 1 by omega, List.range_succ, List.map_append]
    have e : ((bo n (n + j) : Nat) : Int) = 2 * (n : Int) - 1 - (j : Int) := by unfold bo; rw [if_neg (by omega)]; omega
    simp only [List.map_cons, List.map_nil, e]
    rfl
theorem border_l0 {n : Nat} (hn : n ≤ 1000) (d : Nat) : ∀ j, j + d = n → Ev (fun k => plait_border.l0 k (n : Int) ((List.range j).map (fun i => (bo n i : Int))) (n : Int) (j : Int)) (bl n) := by
  induction d with
  | zero =>
    intro j hj
    obtain rfl : j = n := by omega
    refine Ev.step (fun k => ?_) (border_l1 hn j 0 (by omega))
    simp only [plait_border.l0]
    rw [if_neg (by omega)]; rfl
  | succ d ih =>
    intro j hj
    refine Ev.step (fun k => ?_) (ih (j + 1) (by omega))
    simp only [plait_border.l0]
    rw [if_pos (by omega), if_pos (by simp; omega), pw64 (by omega) (by omega), List.range_succ, List.map_append]
    have e : ((bo n j : Nat) : Int) = (j : Int) := by unfold bo; rw [if_pos (by omega)]
    simp only [List.map_cons, List.map_nil, e]
    rfl
theorem border_ev {n : Nat} (hn : n ≤ 1000) : Ev (fun k => plait_border.f k (n : Int)) (bl n) := Ev.congr (fun k => rfl) (border_l0 hn n 0 (by omega))
theorem refborder {n i : Nat} (hn : n ≤ 1000) (hi : i < 2 * n) : pomaderef07_border.f (n : Int) (i : Int) = some (bo n i : Int) := by
  unfold pomaderef07_border.f bo
  by_cases c : i < n
  · rw [if_pos (by omega), if_pos c]
  · rw [if_neg (by omega), if_neg c, pw64 (x := 3 * (n : Int)) (by omega) (by omega), pw64 (x := 3 * (n : Int) - 1) (by omega) (by omega), pw64 (by omega) (by omega)]
    congr 1; omega
/-- the point has no right partner -/
def bad (l : List Int) (p : Nat) : Prop := rd l (p : Int) < 0 ∨ rd l (p : Int) ≥ (l.length : Int) ∨ rd l (p : Int) = (p : Int) ∨ rd l (rd l (p : Int)) ≠ (p : Int)
theorem lm_of {n : Nat} {l : List Int} (hl : l.length = 2 * n) (h : ∀ p, p < 2 * n → ¬ bad l p) : LM n l := by
  have h1 : ∀ p, p < 2 * n → rd l (p : Int) = (fn l p : Int) ∧ fn l p < 2 * n := by
    intro p hp
    have := h p hp
    unfold bad at this
    unfold fn
    omega
  refine ⟨hl, fun z hz => (h1 z hz).1, fun z hz => ⟨(h1 z hz).2, fun e => ?_, ?_⟩⟩
  · refine h z hz (.inr (.inr (.inl ?_)))
    rw [(h1 z hz).1, e]
  · refine Classical.byContradiction fun e => h z hz (.inr (.inr (.inr ?_)))
    rw [(h1 z hz).1, (h1 _ (h1 z hz).2).1]
    omega
theorem LM.good {n : Nat} {l : List Int} (h : LM n l) {p : Nat} (hp : p < 2 * n) : ¬ bad l p := by
  have h1 := h.nn p hp
  have h2 := h.mat p hp
  have h3 := h.nn _ h2.1
  have hl := h.len
  unfold bad
  rw [h1, h3, h2.2.2]
  omega
instance (l : List Int) (p : Nat) : Decidable (bad l p) := by unfold bad; infer_instance
theorem arch_l0 {n : Nat} {l : List Int} (hn : n ≤ 1000) (hl : l.length = 2 * n) (x : Nat) (hx : x < 2 * n) (st out : List Int) (k : Nat) :
    plait_diagram_arches.l0 (k + 1) l st out (bl n) ((2 * n : Nat) : Int) (x : Int) = plait_diagram_arches.j2 k l st out (bo n x : Int) (rd l (bo n x : Int)) (bl n) ((2 * n : Nat) : Int) (x : Int) (decide (bad l (bo n x))) := by
  have hb := bo_lt hx
  have hbl := bl_len n
  simp only [plait_diagram_arches.l0]
  rw [if_pos (by omega), if_pos (by omega), if_pos (by omega), bl_rd hx, if_pos (by omega), if_pos (by omega)]
  by_cases c1 : rd l (bo n x : Int) < 0
  · rw [if_pos c1, decide_eq_true (.inl c1)]
  · rw [if_neg c1]
    by_cases c2 : rd l (bo n x : Int) ≥ (l.length : Int)
    · rw [if_pos c2, decide_eq_true (.inr (.inl c2))]
    · rw [if_neg c2]
      by_cases c3 : rd l (bo n x : Int) = (bo n x : Int)
      · rw [if_pos c3, decide_eq_true (.inr (.inr (.inl c3)))]
      · rw [if_neg c3, if_pos (by omega), if_pos (by omega)]
        congr 1
        by_cases c4 : rd l (rd l (bo n x : Int)) = (bo n x : Int)
        · rw [c4, decide_eq_false (by unfold bad; omega)]; exact bne_self_eq_false ..
        · rw [decide_eq_true (.inr (.inr (.inr c4)))]; exact bne_iff_ne.2 c4
/-- a point without a right partner: none -/
theorem arch_bad {n : Nat} {l : List Int} (hn : n ≤ 1000) (hl : l.length = 2 * n) (d : Nat) : ∀ (x : Nat) (st out : List Int), x + d = 2 * n → st.length ≤ x → out.length ≤ x → (∃ y, x ≤ y ∧ y < 2 * n ∧ bad l (bo n y)) →
    Ev (fun k => plait_diagram_arches.l0 k l st out (bl n) ((2 * n : Nat) : Int) (x : Int)) ((⟨#[]⟩ : ByteArray), false) := by
  induction d with
  | zero => intro x st out hx _ _ ⟨y, a, b, _⟩; omega
  | succ d ih =>
    intro x st out hx hs ho hy
    refine Ev.step (fun k => arch_l0 hn hl x (by omega) st out k) ?_
    by_cases c : bad l (bo n x)
    · refine Ev.step (f := fun _ => some ((⟨#[]⟩ : ByteArray), false)) (fun k => ?_) (Ev.now _)
      rw [decide_eq_true c]
      simp only [plait_diagram_arches.j2]
      rw [if_pos trivial]
    · have hy' : ∃ y, x + 1 ≤ y ∧ y < 2 * n ∧ bad l (bo n y) := by
        obtain ⟨y, a, b, e⟩ := hy
        have : y ≠ x := fun q => c (q ▸ e)
        exact ⟨y, by omega, b, e⟩
      have e1 : wrap64 ((x : Int) + 1) = ((x + 1 : Nat) : Int) := by rw [pw64 (by omega) (by omega)]; rfl
      rw [decide_eq_false c]
      by_cases c1 : (st.length : Int) > 0
      · have ew : wrap64 ((st.length : Int) - 1) = (st.length : Int) - 1 := pw64 (by omega) (by omega)
        by_cases c2 : rd st ((st.length : Int) - 1) = rd l (bo n x : Int)
        · refine Ev.step (fun k => ?_) (ih (x + 1) (st.take ((st.length : Int) - 1).toNat) (out ++ [41]) (by omega) (by rw [List.length_take]; omega) (by simp; omega) hy')
          simp only [plait_diagram_arches.j2]
          rw [if_neg (by decide), if_pos c1, ew, if_pos (by omega), if_pos (by omega), if_pos c2, if_pos (by omega), if_pos (by omega), e1]
        · refine Ev.step (fun k => ?_) (ih (x + 1) (st ++ [(bo n x : Int)]) (out ++ [40]) (by omega) (by simp; omega) (by simp; omega) hy')
          simp only [plait_diagram_arches.j2]
          rw [if_neg (by decide), if_pos c1, ew, if_pos (by omega), if_pos (by omega), if_neg c2, if_pos (by omega), if_pos (by omega), e1]
      · refine Ev.step (fun k => ?_) (ih (x + 1) (st ++ [(bo n x : Int)]) (out ++ [40]) (by omega) (by simp; omega) (by simp; omega) hy')
        simp only [plait_diagram_arches.j2]
        rw [if_neg (by decide), if_neg c1, if_pos (by omega), if_pos (by omega), e1]
/-- the partner along the border -/
def Db (n : Nat) (l : List Int) (x : Nat) : Nat := bo n (fn l (bo n x))
theorem db_pair {n : Nat} {l : List Int} (h : LM n l) : PairN (2 * n) (Db n l) := by
  intro x hx
  have h1 := bo_lt hx
  have h2 := h.mat _ h1
  refine ⟨bo_lt h2.1, fun e => ?_, ?_⟩
  · have := congrArg (bo n) e
    unfold Db at this
    rw [bo_bo h2.1] at this
    exact h2.2.1 this
  · unfold Db
    rw [bo_bo h2.1, h2.2.2, bo_bo hx]
/-- the brackets that the pile gives -/
def rout (D : Nat → Nat) : Nat → Nat → List Nat → List Int
  | 0, _, _ => []
  | d + 1, x, [] => 40 :: rout D d (x + 1) [x]
  | d + 1, x, y :: st => if y = D x then 41 :: rout D d (x + 1) st else 40 :: rout D d (x + 1) (x :: y :: st)
def pile (n : Nat) (st : List Nat) : List Int := (st.map (fun y => (bo n y : Int))).reverse
theorem pile_cons (n y : Nat) (st : List Nat) : pile n (y :: st) = pile n st ++ [(bo n y : Int)] := by simp [pile]
theorem pile_len (n : Nat) (st : List Nat) : (pile n st).length = st.length := by simp [pile]
theorem pile_top (n y : Nat) (st : List Nat) : rd (pile n (y :: st)) (((pile n (y :: st)).length : Int) - 1) = (bo n y : Int) := by
  have e : (((pile n (y :: st)).length : Int) - 1).toNat = (pile n st).length := by rw [pile_len, pile_len]; simp
  unfold rd
  rw [e, pile_cons]
  simp [List.getD_eq_getElem?_getD]
theorem pile_pop (n y : Nat) (st : List Nat) : (pile n (y :: st)).take (((pile n (y :: st)).length : Int) - 1).toNat = pile n st := by
  have e : (((pile n (y :: st)).length : Int) - 1).toNat = (pile n st).length := by rw [pile_len, pile_len]; simp
  rw [e, pile_cons]
  simp
theorem arch_run {n : Nat} {l : List Int} (hn : n ≤ 1000) (h : LM n l) (d : Nat) : ∀ (x : Nat) (st : List Nat) (out : List Int), x + d = 2 * n → (∀ y, y ∈ st → y < 2 * n) → st.length ≤ x → out.length ≤ x →
    Ev (fun k => plait_diagram_arches.l0 k l (pile n st) out (bl n) ((2 * n : Nat) : Int) (x : Int)) (strOfNums (out ++ rout (Db n l) d x st), (run (Db n l) d x st).isEmpty) := by
  have hl := h.len
  induction d with
  | zero =>
    intro x st out hx hst hs ho
    refine Ev.step (f := fun _ => some (strOfNums (out ++ []), st.isEmpty)) (fun k => ?_) (Ev.now _)
    simp only [plait_diagram_arches.l0]
    rw [if_neg (by omega), List.append_nil, pile_len]
    cases st with
    | nil => rfl
    | cons y st => rfl
  | succ d ih =>
    intro x st out hx hst hs ho
    have hxl : x < 2 * n := by omega
    have hb := bo_lt hxl
    refine Ev.step (fun k => arch_l0 hn hl x hxl _ out k) ?_
    rw [decide_eq_false (h.good hb)]
    have e1 : wrap64 ((x : Int) + 1) = ((x + 1 : Nat) : Int) := by rw [pw64 (by omega) (by omega)]; rfl
    have q := h.nn _ hb
    cases st with
    | nil =>
      have g := ih (x + 1) [x] (out ++ [40]) (by omega) (fun y hy => by simp at hy; omega) (by simp) (by simp; omega)
      rw [pile_cons] at g
      simp only [run, rout]
      rw [List.append_assoc] at g
      refine Ev.step (fun k => ?_) g
      simp only [plait_diagram_arches.j2]
      have e0 : (pile n []).length = 0 := rfl
      rw [if_neg (by decide), if_neg (by omega), if_pos (by omega), if_pos (by omega), e1]
    | cons y st =>
      have hy := hst y List.mem_cons_self
      have pl := pile_len n (y :: st)
      have sl : (y :: st).length = st.length + 1 := rfl
      have ew : wrap64 (((pile n (y :: st)).length : Int) - 1) = ((pile n (y :: st)).length : Int) - 1 := pw64 (by omega) (by omega)
      have hD : y = Db n l x ↔ rd (pile n (y :: st)) (((pile n (y :: st)).length : Int) - 1) = rd l (bo n x : Int) := by
        rw [pile_top, q]
        unfold Db
        constructor
        · intro e; rw [e, bo_bo (h.mat _ hb).1]
        · intro e
          have : bo n y = fn l (bo n x) := by omega
          rw [← this, bo_bo hy]
      by_cases c : y = Db n l x
      · have g := ih (x + 1) st (out ++ [41]) (by omega) (fun z hz => hst z (List.mem_cons_of_mem _ hz)) (by omega) (by simp; omega)
        simp only [run, rout]
        rw [if_pos c, if_pos c]
        rw [List.append_assoc] at g
        refine Ev.step (fun k => ?_) g
        simp only [plait_diagram_arches.j2]
        rw [if_neg (by decide), if_pos (by omega), ew, if_pos (by omega), if_pos (by omega), if_pos (hD.1 c), if_pos (by omega), if_pos (by omega), e1, pile_pop]
      · have g := ih (x + 1) (x :: y :: st) (out ++ [40]) (by omega) (fun z hz => by
          rcases List.mem_cons.1 hz with rfl | hz
          · exact hxl
          · exact hst z hz) (by simp at hs ⊢; omega) (by simp; omega)
        simp only [run, rout]
        rw [if_neg c, if_neg c]
        rw [pile_cons, List.append_assoc] at g
        refine Ev.step (fun k => ?_) g
        simp only [plait_diagram_arches.j2]
        rw [if_neg (by decide), if_pos (by omega), ew, if_pos (by omega), if_pos (by omega), if_neg (fun e => c (hD.2 e)), if_pos (by omega), if_pos (by omega), e1]
/-- a diagram -/
structure Dia (n : Nat) (l : List Int) : Prop where
  pos : 0 < n
  lim : n ≤ 10
  lm : LM n l
  nc : NCD (2 * n) (Db n l)
/-- its brackets -/
def brk (n : Nat) (l : List Int) : List Int := (List.range (2 * n)).map (fun x => if Db n l x < x then 41 else 40)
theorem rout_nc {N : Nat} {D : Nat → Nat} (hD : PairN N D) (hn : NCD N D) (d : Nat) : ∀ (x : Nat) (st : List Nat), x + d = N → Stay N D x st → (List.range x).map (fun y => if D y < y then (41 : Int) else 40) ++ rout D d x st = (List.range N).map (fun y => if D y < y then (41 : Int) else 40) := by
  induction d with
  | zero => intro x st hx _; obtain rfl : x = N := by omega
            simp [rout]
  | succ d ih =>
    intro x st hx h
    rcases open_step hD hn (by omega : x < N) h with ⟨c, st', rfl, g⟩ | ⟨c, g1, g⟩
    · rw [← ih (x + 1) st' (by omega) g, List.range_succ, List.map_append]
      simp [rout, c]
    · rw [← ih (x + 1) _ (by omega) g, List.range_succ, List.map_append]
      have c' : ¬ D x < x := by omega
      cases st with
      | nil => simp [rout, c']
      | cons y st => simp [rout, c', g1 y st rfl]
theorem arches_start {n : Nat} {l : List Int} (hn : n ≤ 1000) (hp : 0 < n) (hl : l.length = 2 * n) {r : ByteArray × Bool} (h : Ev (fun k => plait_diagram_arches.l0 k l [] [] (bl n) ((2 * n : Nat) : Int) ((0 : Nat) : Int)) r) : Ev (fun k => plait_diagram_arches.f k l) r := by
  have e : wrap64 ((l.length : Int) / 2) = (n : Int) := by rw [pw64 (by omega) (by omega)]; omega
  refine Ev.congr (f := fun k => plait_diagram_arches.j0 k l false) (fun k => ?_) ?_
  · unfold plait_diagram_arches.f
    rw [if_neg (by omega)]
    congr 1
    have : (l.length : Int) % 2 = 0 := by omega
    rw [this]; rfl
  · refine Ev.step (f := fun k => (plait_border.f k (n : Int)).bind fun t108 => plait_diagram_arches.l0 k l ([] : List Int) ([] : List Int) t108 (t108.length : Int) 0) (fun k => ?_) ?_
    · simp only [plait_diagram_arches.j0]
      rw [if_neg (by decide)]
      unfold plait_diagram_size.f
      rw [Option.bind_some, e]
    · refine Ev.bind (border_ev hn) ?_
      rw [bl_len]
      exact h
theorem arches_odd {l : List Int} (hl : l.length % 2 = 1 ∨ l.length = 0) : Ev (fun k => plait_diagram_arches.f k l) ((⟨#[]⟩ : ByteArray), false) := by
  refine Ev.congr (f := fun k => plait_diagram_arches.j0 k l true) (fun k => ?_) (Ev.step (f := fun _ => some ((⟨#[]⟩ : ByteArray), false)) (fun k => ?_) (Ev.now _))
  · unfold plait_diagram_arches.f
    by_cases c : l.length = 0
    · rw [if_pos (by omega)]
    · rw [if_neg (by omega)]
      congr 1
      have : (l.length : Int) % 2 = 1 := by omega
      rw [this]; rfl
  · simp only [plait_diagram_arches.j0]
    rw [if_pos trivial]
/-! ### by the specification -/
def Crs (n : Nat) (l : List Int) (i k : Nat) : Prop := bo n i < bo n k ∧ bo n k < bo n (fn l i) ∧ bo n (fn l i) < bo n (fn l k)
theorem crs_nc {n : Nat} {l : List Int} : NCD (2 * n) (Db n l) ↔ ∀ i k, i < 2 * n → k < 2 * n → ¬ Crs n l i k := by
  constructor
  · intro h i k hi hk c
    have := h (bo n i) (bo n k) (bo_lt hi) (bo_lt hk)
    unfold Db at this
    rw [bo_bo hi, bo_bo hk] at this
    exact this c
  · intro h a c ha hc
    have := h (bo n a) (bo n c) (bo_lt ha) (bo_lt hc)
    unfold Crs at this
    rw [bo_bo ha, bo_bo hc] at this
    exact this
instance (n : Nat) (l : List Int) (i k : Nat) : Decidable (Crs n l i k) := by unfold Crs; infer_instance
theorem dia_l2 {n : Nat} {l : List Int} (hn : n ≤ 1000) (h : LM n l) (i x : Nat) (hi : i < 2 * n) (hx : x < 2 * n) (k : Nat) : pomaderef07_Diagram.l2 (k + 1) l (n : Int) (i : Int) (x : Int) = if Crs n l i x then some 2 else pomaderef07_Diagram.l2 k l (n : Int) (i : Int) ((x + 1 : Nat) : Int) := by
  have hl := h.len
  have e1 : wrap64 ((x : Int) + 1) = ((x + 1 : Nat) : Int) := by rw [pw64 (by omega) (by omega)]; rfl
  simp only [pomaderef07_Diagram.l2]
  rw [if_pos (by omega), refborder hn hi, Option.bind_some, if_pos (by omega), if_pos (by omega), h.nn i hi, refborder hn (h.mat i hi).1, Option.bind_some, refborder hn hx, Option.bind_some, if_pos (by omega), h.nn x hx, refborder hn (h.mat x hx).1, Option.bind_some, e1]
  by_cases c1 : bo n i < bo n x
  · rw [if_pos (by omega)]
    by_cases c2 : bo n x < bo n (fn l i)
    · rw [if_pos (by omega)]
      by_cases c3 : bo n (fn l i) < bo n (fn l x)
      · rw [if_pos (by omega), if_pos (show Crs n l i x from ⟨c1, c2, c3⟩)]
      · rw [if_neg (by omega), if_neg (fun c : Crs n l i x => c3 c.2.2)]
    · rw [if_neg (by omega), if_neg (fun c : Crs n l i x => c2 c.2.1)]
  · rw [if_neg (by omega), if_neg (fun c : Crs n l i x => c1 c.1)]
theorem dia_l2_hit {n : Nat} {l : List Int} (hn : n ≤ 1000) (h : LM n l) (i : Nat) (hi : i < 2 * n) (d : Nat) : ∀ x, x + d = 2 * n → (∃ y, x ≤ y ∧ y < 2 * n ∧ Crs n l i y) → Ev (fun k => pomaderef07_Diagram.l2 k l (n : Int) (i : Int) (x : Int)) 2 := by
  induction d with
  | zero => intro x hx ⟨y, a, b, _⟩; omega
  | succ d ih =>
    intro x hx ⟨y, a, b, e⟩
    by_cases c : Crs n l i x
    · exact Ev.step (f := fun _ => some 2) (fun k => by rw [dia_l2 hn h i x hi (by omega) k, if_pos c]) (Ev.now _)
    · refine Ev.step (fun k => by rw [dia_l2 hn h i x hi (by omega) k, if_neg c]) (ih (x + 1) (by omega) ⟨y, ?_, b, e⟩)
      have : y ≠ x := fun q => c (q ▸ e)
      omega
theorem dia_l2_miss {n : Nat} {l : List Int} (hn : n ≤ 1000) (h : LM n l) (i : Nat) (hi : i < 2 * n) {r : Int} (hr : Ev (fun k => pomaderef07_Diagram.l1 k l (n : Int) ((i + 1 : Nat) : Int)) r) (d : Nat) : ∀ x, x + d = 2 * n → (∀ y, x ≤ y → y < 2 * n → ¬ Crs n l i y) → Ev (fun k => pomaderef07_Diagram.l2 k l (n : Int) (i : Int) (x : Int)) r := by
  have hl := h.len
  induction d with
  | zero =>
    intro x hx _
    refine Ev.step (fun k => ?_) hr
    simp only [pomaderef07_Diagram.l2]
    rw [if_neg (by omega), pw64 (by omega) (by omega)]; rfl
  | succ d ih =>
    intro x hx hc
    exact Ev.step (fun k => by rw [dia_l2 hn h i x hi (by omega) k, if_neg (hc x (by omega) (by omega))]) (ih (x + 1) (by omega) (fun y a b => hc y (by omega) b))
theorem dia_l1_hit {n : Nat} {l : List Int} (hn : n ≤ 1000) (h : LM n l) (d : Nat) : ∀ i, i + d = 2 * n → (∃ j, i ≤ j ∧ j < 2 * n ∧ ∃ y, y < 2 * n ∧ Crs n l j y) → Ev (fun k => pomaderef07_Diagram.l1 k l (n : Int) (i : Int)) 2 := by
  have hl := h.len
  induction d with
  | zero => intro x hx ⟨y, a, b, _⟩; omega
  | succ d ih =>
    intro i hi ⟨j, a, b, y, e, f⟩
    refine Ev.step (f := fun k => pomaderef07_Diagram.l2 k l (n : Int) (i : Int) ((0 : Nat) : Int)) (fun k => by simp only [pomaderef07_Diagram.l1]; rw [if_pos (by omega)]; rfl) ?_
    by_cases c : ∃ y, y < 2 * n ∧ Crs n l i y
    · obtain ⟨y, c1, c2⟩ := c
      exact dia_l2_hit hn h i (by omega) (2 * n) 0 (by omega) ⟨y, by omega, c1, c2⟩
    · refine dia_l2_miss hn h i (by omega) (ih (i + 1) (by omega) ⟨j, ?_, b, y, e, f⟩) (2 * n) 0 (by omega) (fun y _ g k => c ⟨y, g, k⟩)
      have : j ≠ i := fun q => c ⟨y, e, q ▸ f⟩
      omega
theorem dia_l1_miss {n : Nat} {l : List Int} (hn : n ≤ 1000) (h : LM n l) (hc : ∀ i k, i < 2 * n → k < 2 * n → ¬ Crs n l i k) (d : Nat) : ∀ i, i + d = 2 * n → Ev (fun k => pomaderef07_Diagram.l1 k l (n : Int) (i : Int)) 0 := by
  have hl := h.len
  induction d with
  | zero =>
    intro i hi
    refine Ev.step (f := fun _ => some 0) (fun k => ?_) (Ev.now _)
    simp only [pomaderef07_Diagram.l1]
    rw [if_neg (by omega)]
  | succ d ih =>
    intro i hi
    refine Ev.step (f := fun k => pomaderef07_Diagram.l2 k l (n : Int) (i : Int) ((0 : Nat) : Int)) (fun k => by simp only [pomaderef07_Diagram.l1]; rw [if_pos (by omega)]; rfl) ?_
    exact dia_l2_miss hn h i (by omega) (ih (i + 1) (by omega)) (2 * n) 0 (by omega) (fun y _ g => hc i y (by omega) g)
theorem dia_l0 {l : List Int} {n : Nat} (x : Nat) (hx : x < l.length) (hl : l.length ≤ 1000) (k : Nat) : (bad l x → pomaderef07_Diagram.l0 (k + 1) l (n : Int) (x : Int) = some 2) ∧ (¬ bad l x → pomaderef07_Diagram.l0 (k + 1) l (n : Int) (x : Int) = pomaderef07_Diagram.l0 k l (n : Int) ((x + 1 : Nat) : Int)) := by
  have e1 : wrap64 ((x : Int) + 1) = ((x + 1 : Nat) : Int) := by rw [pw64 (by omega) (by omega)]; rfl
  simp only [pomaderef07_Diagram.l0]
  rw [if_pos (by omega), if_pos (by omega), e1]
  unfold bad
  by_cases c1 : rd l (x : Int) < 0
  · rw [if_pos c1]; exact ⟨fun _ => rfl, fun h => absurd (.inl c1) h⟩
  · rw [if_neg c1]
    by_cases c2 : rd l (x : Int) ≥ (l.length : Int)
    · rw [if_pos c2]; exact ⟨fun _ => rfl, fun h => absurd (.inr (.inl c2)) h⟩
    · rw [if_neg c2]
      by_cases c3 : rd l (x : Int) = (x : Int)
      · rw [if_pos c3]; exact ⟨fun _ => rfl, fun h => absurd (.inr (.inr (.inl c3))) h⟩
      · rw [if_neg c3, if_pos (by omega), if_pos (by omega)]
        by_cases c4 : rd l (rd l (x : Int)) = (x : Int)
        · rw [if_pos c4]; exact ⟨fun h => by omega, fun _ => rfl⟩
        · rw [if_neg c4]; exact ⟨fun _ => rfl, fun h => absurd (.inr (.inr (.inr c4))) h⟩
theorem dia_l0_hit {l : List Int} {n : Nat} (hl : l.length ≤ 1000) (d : Nat) : ∀ x, x + d = l.length → (∃ y, x ≤ y ∧ y < l.length ∧ bad l y) → Ev (fun k => pomaderef07_Diagram.l0 k l (n : Int) (x : Int)) 2 := by
  induction d with
  | zero => intro x hx ⟨y, a, b, _⟩; omega
  | succ d ih =>
    intro x hx ⟨y, a, b, e⟩
    by_cases c : bad l x
    · exact Ev.step (f := fun _ => some 2) (fun k => (dia_l0 x (by omega) hl k).1 c) (Ev.now _)
    · refine Ev.step (fun k => (dia_l0 x (by omega) hl k).2 c) (ih (x + 1) (by omega) ⟨y, ?_, b, e⟩)
      have : y ≠ x := fun q => c (q ▸ e)
      omega
theorem dia_l0_miss {l : List Int} {n : Nat} (hl : l.length ≤ 1000) (h : ∀ y, y < l.length → ¬ bad l y) {r : Int} (hr : Ev (fun k => pomaderef07_Diagram.l1 k l (n : Int) ((0 : Nat) : Int)) r) (d : Nat) : ∀ x, x + d = l.length → Ev (fun k => pomaderef07_Diagram.l0 k l (n : Int) (x : Int)) r := by
  induction d with
  | zero =>
    intro x hx
    refine Ev.step (fun k => ?_) hr
    simp only [pomaderef07_Diagram.l0]
    rw [if_neg (by omega)]; rfl
  | succ d ih =>
    intro x hx
    exact Ev.step (fun k => (dia_l0 x (by omega) hl k).2 (h x (by omega))) (ih (x + 1) (by omega))
theorem dia_odd {l : List Int} (hl : l.length ≤ 20) (h : l.length % 2 = 1 ∨ l.length = 0) : Ev (fun k => pomaderef07_Diagram.f k l) 2 := by
  have e : wrap64 ((l.length : Int) / 2) = (l.length : Int) / 2 := pw64 (by omega) (by omega)
  refine Ev.congr (f := fun k => pomaderef07_Diagram.j0 k l ((l.length : Int) / 2) true) (fun k => ?_) (Ev.step (f := fun _ => some 2) (fun k => ?_) (Ev.now _))
  · unfold pomaderef07_Diagram.f
    rw [if_neg (by omega), e]
    by_cases c : (l.length : Int) / 2 < 1
    · rw [if_pos c]
    · rw [if_neg c]
      congr 1
      have : (l.length : Int) % 2 = 1 := by omega
      rw [this]; rfl
  · simp only [pomaderef07_Diagram.j0]
    rw [if_pos trivial]
theorem dia_even {l : List Int} {n : Nat} (hn : 0 < n) (hn2 : n ≤ 10) (hl : l.length = 2 * n) {r : Int} (hr : Ev (fun k => pomaderef07_Diagram.l0 k l (n : Int) ((0 : Nat) : Int)) r) : Ev (fun k => pomaderef07_Diagram.f k l) r := by
  have e : wrap64 ((l.length : Int) / 2) = (n : Int) := by rw [pw64 (by omega) (by omega)]; omega
  refine Ev.congr (f := fun k => pomaderef07_Diagram.j0 k l (n : Int) false) (fun k => ?_) (Ev.step (fun k => ?_) hr)
  · unfold pomaderef07_Diagram.f
    rw [if_neg (by omega), e, if_neg (by omega)]
    congr 1
    have : (l.length : Int) % 2 = 0 := by omega
    rw [this]; rfl
  · simp only [pomaderef07_Diagram.j0]
    rw [if_neg (by decide)]; rfl
/-- what the program and the specification say of a list -/
theorem dia_both (l : List Int) : ∃ e : Int, Ev (fun k => plait_of.f k l) e ∧ Ev (fun k => pomaderef07_Diagram.f k l) e ∧ ((e = 3 ∧ l.length > 20) ∨ (e = 2 ∧ l.length ≤ 20) ∨ (e = 0 ∧ ∃ n, Dia n l ∧ Ev (fun k => plait_diagram_arches.f k l) (strOfNums (brk n l), true))) := by
  by_cases c0 : l.length > 20
  · refine ⟨3, Ev.congr (fun k => ?_) (Ev.now _), Ev.congr (fun k => ?_) (Ev.now _), .inl ⟨rfl, c0⟩⟩
    · unfold plait_of.f; rw [if_pos (by omega)]
    · unfold pomaderef07_Diagram.f; rw [if_pos (by omega)]
  · have ofs : ∀ s b, Ev (fun k => plait_diagram_arches.f k l) (s, b) → Ev (fun k => plait_of.f k l) (if b = true then 0 else 2) := by
      intro s b hs
      refine Ev.congr (fun k => by unfold plait_of.f; rw [if_neg (by omega)]) (Ev.bind hs ?_)
      cases b with
      | true => exact Ev.now _
      | false => exact Ev.now _
    by_cases c1 : l.length % 2 = 1 ∨ l.length = 0
    · exact ⟨2, ofs _ _ (arches_odd c1), dia_odd (by omega) c1, .inr (.inl ⟨rfl, by omega⟩)⟩
    · obtain ⟨n, hn⟩ : ∃ n, l.length = 2 * n := ⟨l.length / 2, by omega⟩
      have hp : 0 < n := by omega
      by_cases c2 : ∃ y, y < l.length ∧ bad l y
      · obtain ⟨y, a, b⟩ := c2
        refine ⟨2, ofs _ _ (arches_start (by omega) hp hn (arch_bad (by omega) hn (2 * n) 0 [] [] (by omega) (by simp) (by simp) ⟨bo n y, by omega, bo_lt (by omega), by rw [bo_bo (by omega)]; exact b⟩)), dia_even hp (by omega) hn (dia_l0_hit (by omega) l.length 0 (by omega) ⟨y, by omega, a, b⟩), .inr (.inl ⟨rfl, by omega⟩)⟩
      · have hbad : ∀ y, y < l.length → ¬ bad l y := fun y a b => c2 ⟨y, a, b⟩
        have hL := lm_of hn (fun p hp => hbad p (by omega))
        have hr := arches_start (by omega) hp hn (arch_run (by omega) hL (2 * n) 0 [] [] (by omega) (fun y hy => by cases hy) (by simp) (by simp))
        have hD := db_pair hL
        by_cases c3 : NCD (2 * n) (Db n l)
        · have e1 := (run_iff hD).2 c3
          have e2 := rout_nc hD c3 (2 * n) 0 [] (by omega) ⟨trivial, fun z => ⟨fun hz => (by cases hz), fun hz => by omega⟩⟩
          rw [List.isEmpty_iff.2 e1, List.nil_append] at hr
          simp only [List.range_zero, List.map_nil, List.nil_append] at e2
          rw [e2] at hr
          exact ⟨0, ofs _ _ hr, dia_even hp (by omega) hn (dia_l0_miss (by omega) hbad (dia_l1_miss (by omega) hL (crs_nc.1 c3) (2 * n) 0 (by omega)) l.length 0 (by omega)), .inr (.inr ⟨rfl, n, ⟨hp, by omega, hL, c3⟩, hr⟩)⟩
        · rw [List.isEmpty_eq_false_iff.2 (fun e => c3 ((run_iff hD).1 e))] at hr
          have hc : ∃ i, i < 2 * n ∧ ∃ k, k < 2 * n ∧ Crs n l i k := by
            refine Classical.byContradiction fun e => c3 (crs_nc.2 (fun i k hi hk c => e ⟨i, hi, k, hk, c⟩))
          obtain ⟨i, hi, k, hk, c⟩ := hc
          exact ⟨2, ofs _ _ hr, dia_even hp (by omega) hn (dia_l0_miss (by omega) hbad (dia_l1_hit (by omega) hL (2 * n) 0 (by omega) ⟨i, by omega, hi, k, hk, c⟩) l.length 0 (by omega)), .inr (.inl ⟨rfl, by omega⟩)⟩
end Go.Proofs.Ytjfkompfkgjdaaa.L
