/- Coin systems: the number of changes; both programs' tables hold it, cut off at one bound. -/
import Derived.Test.YtgbalmjnjpfopaaLBase
import Derived.Test.YtgbalmjnjpfopaaPCx7
namespace Go.Proofs.Ytgbalmjnjpfopaa.L
open Go.RowKit Go.Proofs.Ytgbalmjnjpfopaa.PC Go.Proofs.YtgbalmjnjpfopaaW.PrintWords Go.Proofs.YtgbalmjnjpfopaaW.PrintLast

/-- with one more coin v: f tells the numbers without it; n bounds the rounds -/
def addC (v : Int) (f : Int → Nat) : Nat → Int → Nat
  | 0, _ => 0
  | n + 1, a => f a + if v ≤ a then addC v f n (a - v) else 0
/-- the number of changes; the coins, the greatest first -/
def W : List Int → Int → Nat
  | [], a => if a = 0 then 1 else 0
  | v :: t, a => addC v (W t) (a.toNat + 1) a
theorem addC_fuel (v : Int) (f : Int → Nat) (hv : 1 ≤ v) : ∀ (n m : Nat) (a : Int), 0 ≤ a → a.toNat < n → a.toNat < m → addC v f n a = addC v f m a := by
  intro n
  induction n with
  | zero => intro m a _ h; omega
  | succ n ih =>
    intro m a h0 hn hm
    obtain ⟨m, rfl⟩ : ∃ q, m = q + 1 := ⟨m - 1, by omega⟩
    simp only [addC]
    by_cases c : v ≤ a
    · rw [if_pos c, if_pos c, ih m (a - v) (by omega) (by omega) (by omega)]
    · rw [if_neg c, if_neg c]
theorem W_cons (v : Int) (t : List Int) (a : Int) (hv : 1 ≤ v) (ha : 0 ≤ a) : W (v :: t) a = W t a + if v ≤ a then W (v :: t) (a - v) else 0 := by
  simp only [W]
  conv => lhs; unfold addC
  by_cases c : v ≤ a
  · rw [if_pos c, if_pos c, addC_fuel v (W t) hv _ _ (a - v) (by omega) (by omega) (show _ < (a - v).toNat + 1 by omega)]
  · rw [if_neg c, if_neg c]

/-- the bound -/
def cap : Int := 1152921504606846977
/-- a table of the numbers up to am: new ones below i, old ones from i on -/
def Tab (am : Int) (f g : Int → Nat) (i : Int) (out : List Int) : Prop :=
  (out.length : Int) = am + 1 ∧ ∀ b : Int, 0 ≤ b → b ≤ am → rd out b = mn ((if b < i then f b else g b : Nat) : Int) cap

theorem rd_set (l : List Int) (i j : Int) (v : Int) (h0 : 0 ≤ i) (h1 : 0 ≤ j) (h : i < l.length) : rd (l.set i.toNat v) j = if i = j then v else rd l j := coins_best.rd_set l i j v h0 h1 h

theorem tab_step {am : Int} {t : List Int} {v a : Int} {out : List Int} (hv : 1 ≤ v) (hva : v ≤ a) (ha : a ≤ am) (h : Tab am (W (v :: t)) (W t) a out) :
    Tab am (W (v :: t)) (W t) (a + 1) (out.set a.toNat (mn (rd out a + rd out (a - v)) cap)) := by
  obtain ⟨hl, hb⟩ := h
  refine ⟨by simp [hl], fun b b0 b1 => ?_⟩
  rw [rd_set out a b _ (by omega) b0 (by omega)]
  by_cases e : a = b
  · subst e
    rw [if_pos rfl, hb a (by omega) ha, hb (a - v) (by omega) (by omega), if_neg (by omega), if_pos (by omega), if_pos (by omega), W_cons v t a hv (by omega), if_pos hva]
    unfold mn cap
    omega
  · rw [if_neg e, hb b b0 b1]
    by_cases c : b < a
    · rw [if_pos c, if_pos (by omega)]
    · rw [if_neg c, if_neg (by omega)]
theorem tab_done {am : Int} {t : List Int} {v a : Int} {out : List Int} (hv : 1 ≤ v) (h : Tab am (W (v :: t)) (W t) a out) (ha : am < a) : Tab am (W (v :: t)) (W t) (am + 1) out := by
  obtain ⟨hl, hb⟩ := h
  refine ⟨hl, fun b b0 b1 => ?_⟩
  rw [hb b b0 b1, if_pos (by omega), if_pos (by omega)]
/-- a table whose every entry is new; and before the next coin: below it nothing turns -/
theorem tab_next {am : Int} {t : List Int} {v : Int} {out : List Int} {g : Int → Nat} (hv : 1 ≤ v) (h : Tab am (W t) g (am + 1) out) : Tab am (W (v :: t)) (W t) v out := by
  obtain ⟨hl, hb⟩ := h
  refine ⟨hl, fun b b0 b1 => ?_⟩
  rw [hb b b0 b1, if_pos (by omega)]
  by_cases c : b < v
  · rw [if_pos c, W_cons v t b hv b0, if_neg (by omega), Nat.add_zero]
  · rw [if_neg c]
theorem tab_bound {am : Int} {f g : Int → Nat} {i : Int} {out : List Int} (h : Tab am f g i out) {b : Int} (b0 : 0 ≤ b) (b1 : b ≤ am) : 0 ≤ rd out b ∧ rd out b ≤ cap := by
  rw [h.2 b b0 b1]; unfold mn cap; omega

/-- what the tables end in -/
def waysEnd (am : Int) (t : List Int) : Int × Int := if (W t am : Int) > 1152921504606846976 then (0, 8) else ((W t am : Int), 0)

theorem end_prog (n : Nat) (am : Int) (l : List Int) (hn : W l.reverse am = n) : (if mn (n : Int) cap = 1152921504606846977 then some ((0 : Int), (8 : Int)) else some (mn (n : Int) cap, 0)) = some (waysEnd am l.reverse) := by
  unfold waysEnd
  rw [hn]
  obtain ⟨m, hm⟩ : ∃ m : Int, (n : Int) = m := ⟨_, rfl⟩
  rw [hm]
  unfold mn cap
  by_cases c : m > 1152921504606846976
  · rw [if_pos c, if_pos (by omega)]
  · rw [if_neg c, if_neg (show ¬ (1152921504606846977 : Int) < m by omega), if_neg (by omega)]
theorem ways_row (l : List Int) (hl : l.length ≤ 15) (hv : ∀ v ∈ l, 1 ≤ v ∧ v ≤ 5000) (am : Int) (h0 : 0 ≤ am) (h1 : am ≤ 100000) (q : Nat) (hq : q < l.length) (r : Int × Int)
    (next : ∀ out, Tab am (W (l.take (q + 1)).reverse) (W (l.take q).reverse) (am + 1) out → Ev (fun k => coins_Ways.l0 k am out l (l.length : Int) ((q : Int) + 1)) r) (d : Nat) :
    ∀ (a : Int) (out : List Int), rd l (q : Int) ≤ a → am + 1 - a ≤ d → Tab am (W (l.take (q + 1)).reverse) (W (l.take q).reverse) a out → Ev (fun k => coins_Ways.l1 k am out (rd l (q : Int)) a l (l.length : Int) (q : Int)) r := by
  have hrev : (l.take (q + 1)).reverse = rd l (q : Int) :: (l.take q).reverse := by
    rw [List.take_succ_eq_append_getElem hq, List.reverse_append]
    simp [rd, List.getD_eq_getElem?_getD, hq]
  have hvq : 1 ≤ rd l (q : Int) ∧ rd l (q : Int) ≤ 5000 := hv _ (by simp [rd, List.getD_eq_getElem?_getD, hq])
  induction d with
  | zero =>
    intro a out ha hd ht
    refine Ev.step (fun k => ?_) (next out (by rw [hrev] at ht ⊢; exact tab_done hvq.1 ht (by omega)))
    simp only [coins_Ways.l1]
    rw [if_neg (by omega), w64 (by omega) (by omega)]
  | succ d ih =>
    intro a out ha hd ht
    by_cases c : a ≤ am
    · rw [hrev] at ht ih
      have ho := ht.1
      have b1 := tab_bound ht (b := a) (by omega) c
      have b2 := tab_bound ht (b := a - rd l (q : Int)) (by omega) (by omega)
      unfold cap at b1 b2
      refine Ev.step (fun k => ?_) (ih (a + 1) (out.set a.toNat (mn (rd out a + rd out (a - rd l (q : Int))) cap)) (by omega) (by omega) (tab_step hvq.1 ha c ht))
      simp only [coins_Ways.l1]
      rw [if_pos c, if_pos (by omega), if_pos (by omega), w64 (x := a - rd l (q : Int)) (by omega) (by omega), if_pos (by omega), if_pos (by omega), w64 (x := a + 1) (by omega) (by omega), w64 (x := rd out a + rd out (a - rd l (q : Int))) (by omega) (by omega)]
      rfl
    · refine Ev.step (fun k => ?_) (next out (by rw [hrev] at ht ⊢; exact tab_done hvq.1 ht (by omega)))
      simp only [coins_Ways.l1]
      rw [if_neg c, w64 (by omega) (by omega)]

theorem ways_loop (l : List Int) (hl : l.length ≤ 15) (hv : ∀ v ∈ l, 1 ≤ v ∧ v ≤ 5000) (am : Int) (h0 : 0 ≤ am) (h1 : am ≤ 100000) (d : Nat) :
    ∀ (q : Nat) (out : List Int) (g : Int → Nat), q + d = l.length → Tab am (W (l.take q).reverse) g (am + 1) out → Ev (fun k => coins_Ways.l0 k am out l (l.length : Int) (q : Int)) (waysEnd am l.reverse) := by
  induction d with
  | zero =>
    intro q out g hq ht
    have ho := ht.1
    have e := ht.2 am h0 (Int.le_refl _)
    rw [if_pos (by omega), show l.take q = l from List.take_of_length_le (by omega)] at e
    refine Ev.step (f := fun _ => some (waysEnd am l.reverse)) (fun k => ?_) (Ev.now _)
    simp only [coins_Ways.l0]
    rw [if_neg (by omega), if_pos h0, if_pos (by omega), e]
    exact end_prog (W l.reverse am) am l rfl
  | succ d ih =>
    intro q out g hq ht
    have hql : q < l.length := by omega
    have hrev : (l.take (q + 1)).reverse = rd l (q : Int) :: (l.take q).reverse := by
      rw [List.take_succ_eq_append_getElem hql, List.reverse_append]
      simp [rd, List.getD_eq_getElem?_getD, hql]
    have hvq : 1 ≤ rd l (q : Int) ∧ rd l (q : Int) ≤ 5000 := hv _ (by simp [rd, List.getD_eq_getElem?_getD, hql])
    refine Ev.step (fun k => ?_) (ways_row l hl hv am h0 h1 q hql _ (fun out' ht' => ih (q + 1) out' _ (by omega) ht') (am + 1).toNat (rd l (q : Int)) out (Int.le_refl _) (by omega) (by rw [hrev]; exact tab_next hvq.1 ht))
    simp only [coins_Ways.l0]
    rw [if_pos (by omega), if_pos (by omega), if_pos (by omega)]
theorem tab_start (am : Int) (h0 : 0 ≤ am) : Tab am (W []) (W []) (am + 1) ((List.replicate (am + 1).toNat 0).set 0 1) := by
  refine ⟨by simp; omega, fun b b0 b1 => ?_⟩
  have := rd_set (List.replicate (am + 1).toNat (0 : Int)) 0 b 1 (by omega) b0 (by simp; omega)
  rw [show ((0 : Int)).toNat = 0 from rfl] at this
  rw [this, if_pos (show b < am + 1 by omega)]
  simp only [W]
  by_cases e : (0 : Int) = b
  · subst e
    rw [if_pos rfl, if_pos rfl]
    decide
  · rw [if_neg e, if_neg (fun h => e h.symm)]
    have : rd (List.replicate (am + 1).toNat (0 : Int)) b = 0 := by
      unfold rd
      rw [List.getD_eq_getElem?_getD, List.getElem?_replicate]
      split <;> rfl
    rw [this]; decide

/-- what Ways returns -/
noncomputable def waysV (l : List Int) (a : Int) : Int × Int := if err l a 100000 = 0 then waysEnd a l.reverse else (0, err l a 100000)
theorem waysV_ev (l : List Int) (a : Int) : Ev (fun k => coins_Ways.f k l a) (waysV l a) := by
  refine Ev.bind (looked_ev l a _) ?_
  unfold waysV
  split
  · rename_i h
    obtain ⟨hs, h0, h1⟩ := err_zero h
    have hh := ways_loop l hs.2.1 hs.range a h0 h1 l.length 0 _ _ (by omega) (tab_start a h0)
    refine Ev.congr (fun k => ?_) hh
    rw [w64 (by omega) (by omega), if_pos (by omega), if_pos (by omega)]
    simp only [Option.bind_some]
    rw [if_pos (by simp; omega)]
    rfl
  · exact Ev.now _

theorem mn_comm' (a : Int) : mn cap a = mn a cap := by unfold mn; by_cases c : a < cap <;> by_cases d : cap < a <;> simp [c, d] <;> omega
theorem rways_row (l : List Int) (hl : l.length ≤ 15) (hv : ∀ v ∈ l, 1 ≤ v ∧ v ≤ 5000) (am : Int) (h0 : 0 ≤ am) (h1 : am ≤ 100000) (q : Nat) (hq : q < l.length) (r : Int × Int)
    (next : ∀ out, Tab am (W (l.take (q + 1)).reverse) (W (l.take q).reverse) (am + 1) out → Ev (fun k => pomaderef05_Ways.l0 k l am out ((q : Int) + 1)) r) (d : Nat) :
    ∀ (a : Int) (out : List Int), rd l (q : Int) ≤ a → am + 1 - a ≤ d → Tab am (W (l.take (q + 1)).reverse) (W (l.take q).reverse) a out → Ev (fun k => pomaderef05_Ways.l1 k l am out (q : Int) a) r := by
  have hrev : (l.take (q + 1)).reverse = rd l (q : Int) :: (l.take q).reverse := by
    rw [List.take_succ_eq_append_getElem hq, List.reverse_append]
    simp [rd, List.getD_eq_getElem?_getD, hq]
  have hvq : 1 ≤ rd l (q : Int) ∧ rd l (q : Int) ≤ 5000 := hv _ (by simp [rd, List.getD_eq_getElem?_getD, hq])
  induction d with
  | zero =>
    intro a out ha hd ht
    refine Ev.step (fun k => ?_) (next out (by rw [hrev] at ht ⊢; exact tab_done hvq.1 ht (by omega)))
    simp only [pomaderef05_Ways.l1]
    rw [if_neg (by omega), w64 (by omega) (by omega)]
  | succ d ih =>
    intro a out ha hd ht
    by_cases c : a ≤ am
    · rw [hrev] at ht ih
      have ho := ht.1
      have b1 := tab_bound ht (b := a) (by omega) c
      have b2 := tab_bound ht (b := a - rd l (q : Int)) (by omega) (by omega)
      unfold cap at b1 b2
      refine Ev.step (fun k => ?_) (ih (a + 1) (out.set a.toNat (mn (rd out a + rd out (a - rd l (q : Int))) cap)) (by omega) (by omega) (tab_step hvq.1 ha c ht))
      simp only [pomaderef05_Ways.l1]
      rw [if_pos c, if_pos (by omega), if_pos (by omega), if_pos (by omega), if_pos (by omega), w64 (x := a - rd l (q : Int)) (by omega) (by omega), if_pos (by omega), if_pos (by omega), w64 (x := a + 1) (by omega) (by omega), w64 (x := rd out a + rd out (a - rd l (q : Int))) (by omega) (by omega), ← mn_comm']
      rfl
    · refine Ev.step (fun k => ?_) (next out (by rw [hrev] at ht ⊢; exact tab_done hvq.1 ht (by omega)))
      simp only [pomaderef05_Ways.l1]
      rw [if_neg c, w64 (by omega) (by omega)]
theorem end_ref (n : Nat) (am : Int) (l : List Int) (hn : W l.reverse am = n) : (if mn (n : Int) cap > 1152921504606846976 then some ((0 : Int), (8 : Int)) else some (mn (n : Int) cap, 0)) = some (waysEnd am l.reverse) := by
  unfold waysEnd
  rw [hn]
  obtain ⟨m, hm⟩ : ∃ m : Int, (n : Int) = m := ⟨_, rfl⟩
  rw [hm]
  unfold mn cap
  by_cases c : m > 1152921504606846976
  · rw [if_pos c, if_pos (by omega)]
  · rw [if_neg c, if_neg (show ¬ (1152921504606846977 : Int) < m by omega), if_neg (by omega)]
theorem rways_loop (l : List Int) (hl : l.length ≤ 15) (hv : ∀ v ∈ l, 1 ≤ v ∧ v ≤ 5000) (am : Int) (h0 : 0 ≤ am) (h1 : am ≤ 100000) (d : Nat) :
    ∀ (q : Nat) (out : List Int) (g : Int → Nat), q + d = l.length → Tab am (W (l.take q).reverse) g (am + 1) out → Ev (fun k => pomaderef05_Ways.l0 k l am out (q : Int)) (waysEnd am l.reverse) := by
  induction d with
  | zero =>
    intro q out g hq ht
    have ho := ht.1
    have e := ht.2 am h0 (Int.le_refl _)
    rw [if_pos (by omega), show l.take q = l from List.take_of_length_le (by omega)] at e
    refine Ev.step (f := fun _ => some (waysEnd am l.reverse)) (fun k => ?_) (Ev.now _)
    simp only [pomaderef05_Ways.l0]
    rw [if_neg (by omega), if_pos h0, if_pos (by omega), e]
    exact end_ref (W l.reverse am) am l rfl
  | succ d ih =>
    intro q out g hq ht
    have hql : q < l.length := by omega
    have hrev : (l.take (q + 1)).reverse = rd l (q : Int) :: (l.take q).reverse := by
      rw [List.take_succ_eq_append_getElem hql, List.reverse_append]
      simp [rd, List.getD_eq_getElem?_getD, hql]
    have hvq : 1 ≤ rd l (q : Int) ∧ rd l (q : Int) ≤ 5000 := hv _ (by simp [rd, List.getD_eq_getElem?_getD, hql])
    refine Ev.step (fun k => ?_) (rways_row l hl hv am h0 h1 q hql _ (fun out' ht' => ih (q + 1) out' _ (by omega) ht') (am + 1).toNat (rd l (q : Int)) out (Int.le_refl _) (by omega) (by rw [hrev]; exact tab_next hvq.1 ht))
    simp only [pomaderef05_Ways.l0]
    rw [if_pos (by omega), if_pos (by omega)]
theorem refWaysV_ev (l : List Int) (a : Int) : Ev (fun k => pomaderef05_Ways.f k l a) (waysV l a) := by
  refine Ev.bind (asked_ev l a _) ?_
  unfold waysV
  split
  · rename_i h
    obtain ⟨hs, h0, h1⟩ := err_zero h
    have hh := rways_loop l hs.2.1 hs.range a h0 h1 l.length 0 _ _ (by omega) (tab_start a h0)
    refine Ev.congr (fun k => ?_) hh
    rw [w64 (by omega) (by omega), if_pos (by omega), if_pos (by omega)]
    simp only [Option.bind_some]
    rw [if_pos (by simp; omega)]
    rfl
  · exact Ev.now _

/-! ### what the numbers obey -/
theorem W_one (a : Int) (h0 : 0 ≤ a) : W [1] a = 1 := by
  obtain ⟨n, rfl⟩ := Int.eq_ofNat_of_zero_le h0
  induction n with
  | zero => decide
  | succ n ih =>
    rw [W_cons 1 [] _ (by omega) (by omega), if_pos (by omega), show ((n + 1 : Nat) : Int) - 1 = (n : Int) from by omega, ih (by omega)]
    simp only [W]
    rw [if_neg (by omega)]
/-- lists whose last coin is 1 -/
theorem W_mono (t : List Int) (ht : ∀ v ∈ t, 1 ≤ v) (a : Int) (h0 : 0 ≤ a) : W (t ++ [1]) a ≤ W (t ++ [1]) (a + 1) := by
  induction t generalizing a with
  | nil => rw [List.nil_append, W_one a h0, W_one _ (by omega)]; exact Nat.le_refl _
  | cons v t ih =>
    have hv := ht v List.mem_cons_self
    have iht := ih (fun x hx => ht x (List.mem_cons_of_mem _ hx))
    obtain ⟨n, rfl⟩ := Int.eq_ofNat_of_zero_le h0
    induction n using Nat.strongRecOn with
    | ind n ihn =>
      have e1 := W_cons v (t ++ [1]) (n : Int) hv h0
      have e2 := W_cons v (t ++ [1]) ((n : Int) + 1) hv (by omega)
      rw [List.cons_append, e1, e2]
      have h1 := iht (n : Int) h0
      by_cases c : v ≤ (n : Int)
      · rw [if_pos c, if_pos (by omega)]
        have h2 := ihn ((n : Int) - v).toNat (by omega) (by omega)
        rw [Int.toNat_of_nonneg (by omega), List.cons_append] at h2
        rw [show (n : Int) + 1 - v = (n : Int) - v + 1 from by omega]
        omega
      · rw [if_neg c]; omega
theorem W_pos (t : List Int) (ht : ∀ v ∈ t, 1 ≤ v) (a : Int) (h0 : 0 ≤ a) : 1 ≤ W (t ++ [1]) a := by
  induction t with
  | nil => rw [List.nil_append, W_one a h0]; exact Nat.le_refl _
  | cons v t ih =>
    have h := ih (fun x hx => ht x (List.mem_cons_of_mem _ hx))
    rw [List.cons_append, W_cons v _ _ (ht v List.mem_cons_self) h0]
    omega
theorem Sys.rev {l : List Int} (h : Sys l) : ∃ t, l.reverse = t ++ [1] ∧ ∀ v ∈ t, 1 ≤ v := by
  obtain ⟨h1, h2, h3, h4⟩ := id h
  cases l with
  | nil => simp at h1
  | cons x l =>
    have hx : x = 1 := by simpa [rd] using h3
    subst hx
    exact ⟨l.reverse, by simp, fun v hv => (h.range v (by simp at hv; simp [hv])).1⟩
end Go.Proofs.Ytgbalmjnjpfopaa.L
