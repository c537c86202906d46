/- Chairs: the errors of wishes, and who sits where, by the program and by the specification. -/
import Derived.Test.YtfopeenjpdaacaaPCg2
import Derived.Test.YtfopeenjpdaacaaPCg2
import Derived.Test.YtfopeenjpdaacaaPCg2
import Derived.Test.YtfopeenjpdaacaaPCg2
import Derived.Test.YtfopeenjpdaacaaPCg2
import Derived.Test.YtfopeenjpdaacaaPCg2
import Derived.Test.YtfopeenjpdaacaaPCg2
import Derived.Test.YtfopeenjpdaacaaPCg1
namespace Go.Proofs.Ytfopeenjpdaacaa.L
open Go.RowKit Go.Proofs.Ytfopeenjpdaacaa.PC Go.Proofs.YtfopeenjpdaacaaW.PrintWords Go.Proofs.YtfopeenjpdaacaaW.PrintLast

theorem w64 {x : Int} (h0 : -9223372036854775808 ≤ x) (h1 : x ≤ 9223372036854775807) : wrap64 x = x := by unfold wrap64; omega
theorem alive_ev : pomadelaw03_alive.f = some true := rfl
/-- the errors of a row and wishes -/
def rowV (m : Int) (l : List Int) : Int := if m < 1 ∨ m > 30 then 2 else if (l.length : Int) > m then 3 else if l.all (fun w => decide (0 ≤ w ∧ w < m)) = true then 0 else 2
theorem wished_ev (m : Int) (l : List Int) : chairs_wished.f m l = some (rowV m l) := by
  unfold chairs_wished.f rowV
  split
  · rfl
  · split
    · rfl
    · split <;> rfl
structure Row (m : Int) (l : List Int) : Prop where
  m1 : 1 ≤ m
  m30 : m ≤ 30
  len : (l.length : Int) ≤ m
  all : ∀ w ∈ l, 0 ≤ w ∧ w < m
theorem row_iff (m : Int) (l : List Int) : rowV m l = 0 ↔ Row m l := by
  unfold rowV
  constructor
  · intro h
    split at h
    · omega
    · split at h
      · omega
      · split at h
        · rename_i h1 h2 h3
          exact ⟨by omega, by omega, by omega, fun w hw => by simpa using List.all_eq_true.1 h3 w hw⟩
        · omega
  · rintro ⟨a, b, c, d⟩
    rw [if_neg (by omega), if_neg (by omega), if_pos (List.all_eq_true.2 fun w hw => by simpa using d w hw)]
theorem rd_mem (l : List Int) (q : Nat) (h : q < l.length) : rd l (q : Int) ∈ l := by simp [rd, List.getD_eq_getElem?_getD, h]
theorem drop_rd (l : List Int) (q : Nat) (h : q < l.length) : l.drop q = rd l (q : Int) :: l.drop (q + 1) := by
  rw [List.drop_eq_getElem_cons h]; simp [rd, List.getD_eq_getElem?_getD, h]
theorem row_loop (m : Int) (l : List Int) (hl : l.length ≤ 1000000) (d : Nat) : ∀ q : Nat, q + d = l.length → Ev (fun k => pomaderef03_Row.l0 k m l (q : Int)) (if (l.drop q).all (fun w => decide (0 ≤ w ∧ w < m)) = true then 0 else 2) := by
  induction d with
  | zero =>
    intro q hq
    rw [List.drop_of_length_le (by omega)]
    refine Ev.step (f := fun _ => some 0) (fun k => ?_) (Ev.now _)
    simp only [pomaderef03_Row.l0]
    rw [if_neg (by omega)]
  | succ d ih =>
    intro q hq
    rw [drop_rd l q (by omega), List.all_cons]
    by_cases c1 : rd l (q : Int) < 0
    · rw [show decide (0 ≤ rd l (q : Int) ∧ rd l (q : Int) < m) = false from decide_eq_false (by omega), Bool.false_and, if_neg (by simp)]
      refine Ev.step (f := fun _ => some 2) (fun k => ?_) (Ev.now _)
      simp only [pomaderef03_Row.l0]
      rw [if_pos (by omega), if_pos (by omega), if_pos c1]
    by_cases c2 : rd l (q : Int) ≥ m
    · rw [show decide (0 ≤ rd l (q : Int) ∧ rd l (q : Int) < m) = false from decide_eq_false (by omega), Bool.false_and, if_neg (by simp)]
      refine Ev.step (f := fun _ => some 2) (fun k => ?_) (Ev.now _)
      simp only [pomaderef03_Row.l0]
      rw [if_pos (by omega), if_pos (by omega), if_neg c1, if_pos c2]
    rw [show decide (0 ≤ rd l (q : Int) ∧ rd l (q : Int) < m) = true from decide_eq_true (by omega), Bool.true_and]
    refine Ev.step (fun k => ?_) (ih (q + 1) (by omega))
    simp only [pomaderef03_Row.l0]
    rw [if_pos (by omega), if_pos (by omega), if_neg c1, if_neg c2, w64 (by omega) (by omega)]
    rfl
theorem row_ev (m : Int) (l : List Int) (hl : l.length ≤ 1000000) : Ev (fun k => pomaderef03_Row.f k m l) (rowV m l) := by
  unfold rowV
  by_cases c1 : m < 1
  · rw [if_pos (Or.inl c1)]
    refine Ev.congr (fun k => by unfold pomaderef03_Row.f; rw [if_pos c1]) (Ev.step (f := fun _ => some 2) (fun k => ?_) (Ev.now _))
    simp only [pomaderef03_Row.j0]; rw [if_pos trivial]
  by_cases c2 : m > 30
  · rw [if_pos (Or.inr c2)]
    refine Ev.congr (fun k => by unfold pomaderef03_Row.f; rw [if_neg c1, decide_eq_true c2]) (Ev.step (f := fun _ => some 2) (fun k => ?_) (Ev.now _))
    simp only [pomaderef03_Row.j0]; rw [if_pos trivial]
  rw [if_neg (by omega)]
  refine Ev.congr (fun k => by unfold pomaderef03_Row.f; rw [if_neg c1, decide_eq_false c2]) ?_
  by_cases c3 : (l.length : Int) > m
  · rw [if_pos c3]
    refine Ev.step (f := fun _ => some 3) (fun k => ?_) (Ev.now _)
    simp only [pomaderef03_Row.j0]; rw [if_neg (by simp), if_pos c3]
  rw [if_neg c3]
  refine Ev.step (fun k => ?_) (row_loop m l hl l.length 0 (by omega))
  simp only [pomaderef03_Row.j0]; rw [if_neg (by simp), if_neg c3]
  rfl

/-! ### the chair of each customer -/
/-- the first free chair from c on -/
def seat (T : List Bool) : Nat → Int → Int
  | 0, c => c
  | d + 1, c => if rdOf false T c = true then seat T d (c + 1) else c
theorem seat_range (T : List Bool) (d : Nat) : ∀ c : Int, c ≤ seat T d c ∧ seat T d c ≤ c + d := by
  induction d with
  | zero => intro c; simp [seat]
  | succ d ih =>
    intro c
    simp only [seat]
    split
    · have := ih (c + 1); omega
    · omega
/-- the chairs of all; false: somebody finds none -/
def sitL (m : Int) : List Int → List Bool → List Int → List Int × Bool
  | [], _, out => (out, true)
  | w :: ws, T, out => if seat T (m - w).toNat w = m then ([], false) else sitL m ws (T.set (seat T (m - w).toNat w).toNat true) (out ++ [seat T (m - w).toNat w])
theorem psit1 (m : Int) (T : List Bool) (hT : (T.length : Int) = m) (hm : m ≤ 1000000) (out l : List Int) (ho : out.length ≤ 1000000) (L i : Int) (hi : 0 ≤ i) (hi2 : i ≤ 1000000) (r : List Int × Bool) (d : Nat) : ∀ c s : Int, 0 ≤ c → c + d = m → seat T d c = s →
    (if s = m then r = ([], false) else Ev (fun k => chairs_sit.l0 k m (T.set s.toNat true) (out ++ [s]) l L (i + 1)) r) →
    Ev (fun k => chairs_sit.l1 k m T out c l L i) r := by
  induction d with
  | zero =>
    intro c s h0 hc hs h
    obtain rfl : c = m := by omega
    simp only [seat] at hs
    subst hs
    rw [if_pos rfl] at h
    subst h
    refine Ev.step (f := fun _ => some ([], false)) (fun k => ?_) (Ev.now _)
    simp only [chairs_sit.l1]
    rw [if_neg (by omega), if_pos trivial]
  | succ d ih =>
    intro c s h0 hc hs h
    simp only [seat] at hs
    by_cases c1 : rdOf false T c = true
    · rw [if_pos c1] at hs
      refine Ev.step (fun k => ?_) (ih (c + 1) s (by omega) (by omega) hs h)
      simp only [chairs_sit.l1]
      rw [if_pos (by omega), if_pos h0, if_pos (by omega), if_pos c1, w64 (by omega) (by omega)]
    · rw [if_neg c1] at hs
      subst hs
      rw [if_neg (by omega)] at h
      refine Ev.step (fun k => ?_) h
      simp only [chairs_sit.l1]
      rw [if_pos (by omega), if_pos h0, if_pos (by omega), if_neg c1, if_neg (by omega), if_pos (by omega), w64 (by omega) (by omega)]
theorem psit0 (m : Int) (hm : m ≤ 1000000) (l : List Int) (hl : l.length ≤ 1000000) (hw : ∀ w ∈ l, 0 ≤ w ∧ w < m) (d : Nat) : ∀ (q : Nat) (T : List Bool) (out : List Int), q + d = l.length → (T.length : Int) = m → out.length = q →
    Ev (fun k => chairs_sit.l0 k m T out l (l.length : Int) (q : Int)) (sitL m (l.drop q) T out) := by
  induction d with
  | zero =>
    intro q T out hq hT ho
    rw [List.drop_of_length_le (by omega)]
    refine Ev.step (f := fun _ => some (out, true)) (fun k => ?_) (Ev.now _)
    simp only [chairs_sit.l0]
    rw [if_neg (by omega)]
  | succ d ih =>
    intro q T out hq hT ho
    have hr := hw _ (rd_mem l q (by omega))
    refine Ev.step (f := fun k => chairs_sit.l1 k m T out (rd l (q : Int)) l (l.length : Int) (q : Int)) (fun k => ?_) ?_
    · simp only [chairs_sit.l0]
      rw [if_pos (by omega), if_pos (by omega), if_pos (by omega)]
    refine psit1 m T hT hm out l (by omega) _ _ (by omega) (by omega) _ (m - rd l (q : Int)).toNat (rd l (q : Int)) _ hr.1 (by omega) rfl ?_
    rw [drop_rd l q (by omega)]
    simp only [sitL]
    split
    · rfl
    · refine Ev.congr (fun k => ?_) (ih (q + 1) _ _ (by omega) (by rw [List.length_set]; exact hT) (by simp; omega))
      rfl
theorem rsit1 (m : Int) (T : List Bool) (hT : (T.length : Int) = m) (hm : m ≤ 1000000) (out l : List Int) (ho : out.length ≤ 1000000) (i : Int) (hi : 0 ≤ i) (hi2 : i ≤ 1000000) (r : List Int × Bool) (d : Nat) : ∀ c s : Int, 0 ≤ c → c + d = m → seat T d c = s →
    (if s = m then r = ([], false) else Ev (fun k => pomaderef03_sit.l0 k m l (T.set s.toNat true) (out ++ [s]) (i + 1)) r) →
    Ev (fun k => pomaderef03_sit.l1 k m l T out i c) r := by
  induction d with
  | zero =>
    intro c s h0 hc hs h
    obtain rfl : c = m := by omega
    simp only [seat] at hs
    subst hs
    rw [if_pos rfl] at h
    subst h
    refine Ev.step (f := fun _ => some ([], false)) (fun k => ?_) (Ev.now _)
    simp only [pomaderef03_sit.l1]
    rw [if_neg (by omega), if_pos trivial]
  | succ d ih =>
    intro c s h0 hc hs h
    simp only [seat] at hs
    by_cases c1 : rdOf false T c = true
    · rw [if_pos c1] at hs
      refine Ev.step (fun k => ?_) (ih (c + 1) s (by omega) (by omega) hs h)
      simp only [pomaderef03_sit.l1]
      rw [if_pos (by omega), if_pos h0, if_pos (by omega), if_pos c1, w64 (by omega) (by omega)]
    · rw [if_neg c1] at hs
      subst hs
      rw [if_neg (by omega)] at h
      refine Ev.step (fun k => ?_) h
      simp only [pomaderef03_sit.l1]
      rw [if_pos (by omega), if_pos h0, if_pos (by omega), if_neg c1, if_neg (by omega), if_pos (by omega), w64 (by omega) (by omega)]
theorem rsit0 (m : Int) (hm : m ≤ 1000000) (l : List Int) (hl : l.length ≤ 1000000) (hw : ∀ w ∈ l, 0 ≤ w ∧ w < m) (d : Nat) : ∀ (q : Nat) (T : List Bool) (out : List Int), q + d = l.length → (T.length : Int) = m → out.length = q →
    Ev (fun k => pomaderef03_sit.l0 k m l T out (q : Int)) (sitL m (l.drop q) T out) := by
  induction d with
  | zero =>
    intro q T out hq hT ho
    rw [List.drop_of_length_le (by omega)]
    refine Ev.step (f := fun _ => some (out, true)) (fun k => ?_) (Ev.now _)
    simp only [pomaderef03_sit.l0]
    rw [if_neg (by omega)]
  | succ d ih =>
    intro q T out hq hT ho
    have hr := hw _ (rd_mem l q (by omega))
    refine Ev.step (f := fun k => pomaderef03_sit.l1 k m l T out (q : Int) (rd l (q : Int))) (fun k => ?_) ?_
    · simp only [pomaderef03_sit.l0]
      rw [if_pos (by omega), if_pos (by omega)]
    refine rsit1 m T hT hm out l (by omega) _ (by omega) (by omega) _ (m - rd l (q : Int)).toNat (rd l (q : Int)) _ hr.1 (by omega) rfl ?_
    rw [drop_rd l q (by omega)]
    simp only [sitL]
    split
    · rfl
    · refine Ev.congr (fun k => ?_) (ih (q + 1) _ _ (by omega) (by rw [List.length_set]; exact hT) (by simp; omega))
      rfl
/-- who sits where -/
def sitV (m : Int) (l : List Int) : List Int × Bool := sitL m l (List.replicate m.toNat false) []
theorem psit_ev (m : Int) (l : List Int) (h : Row m l) : Ev (fun k => chairs_sit.f k m l) (sitV m l) := by
  have h1 := h.m1; have h2 := h.m30; have h3 := h.len
  refine Ev.congr (fun k => ?_) (psit0 m (by omega) l (by omega) h.all l.length 0 _ [] (by omega) (by simp; omega) rfl)
  unfold chairs_sit.f
  rw [if_pos (by omega), if_pos (by omega)]
  rfl
theorem rsit_ev (m : Int) (l : List Int) (h : Row m l) : Ev (fun k => pomaderef03_sit.f k m l) (sitV m l) := by
  have h1 := h.m1; have h2 := h.m30; have h3 := h.len
  refine Ev.congr (fun k => ?_) (rsit0 m (by omega) l (by omega) h.all l.length 0 _ [] (by omega) (by simp; omega) rfl)
  unfold pomaderef03_sit.f
  rw [if_pos (by omega), if_pos (by omega)]
  rfl
/-- what Sit tells -/
def SitV (m : Int) (l : List Int) : List Int × Int := if rowV m l = 0 then (if (sitV m l).2 = true then ((sitV m l).1, 0) else ([], 10)) else ([], rowV m l)
theorem Sit_ev (m : Int) (l : List Int) : Ev (fun k => chairs_Sit.f k m l) (SitV m l) := by
  unfold SitV
  refine Ev.bind (Ev.congr (fun _ => wished_ev m l) (Ev.now _)) ?_
  by_cases h : rowV m l = 0
  · rw [if_pos h]
    refine Ev.congr (fun k => if_pos h) (Ev.bind (psit_ev m l ((row_iff m l).1 h)) ?_)
    split <;> exact Ev.now _
  · rw [if_neg h]
    exact Ev.congr (fun k => if_neg h) (Ev.now _)
theorem rSit_ev (m : Int) (l : List Int) (hl : l.length ≤ 1000000) : Ev (fun k => pomaderef03_Sit.f k m l) (SitV m l) := by
  unfold SitV
  refine Ev.bind (row_ev m l hl) ?_
  by_cases h : rowV m l = 0
  · rw [if_pos h]
    refine Ev.congr (fun k => if_pos h) (Ev.bind (rsit_ev m l ((row_iff m l).1 h)) ?_)
    split <;> exact Ev.now _
  · rw [if_neg h]
    exact Ev.congr (fun k => if_neg h) (Ev.now _)
/-- what Good tells -/
def GoodV (m : Int) (l : List Int) : Bool × Int := if rowV m l = 0 then ((sitV m l).2, 0) else (false, rowV m l)
theorem Good_ev (m : Int) (l : List Int) : Ev (fun k => chairs_Good.f k m l) (GoodV m l) := by
  unfold GoodV
  refine Ev.bind (Ev.congr (fun _ => wished_ev m l) (Ev.now _)) ?_
  by_cases h : rowV m l = 0
  · rw [if_pos h]
    exact Ev.congr (fun k => if_pos h) (Ev.bind (psit_ev m l ((row_iff m l).1 h)) (Ev.now _))
  · rw [if_neg h]
    exact Ev.congr (fun k => if_neg h) (Ev.now _)
theorem rGood_ev (m : Int) (l : List Int) (hl : l.length ≤ 1000000) : Ev (fun k => pomaderef03_Good.f k m l) (GoodV m l) := by
  unfold GoodV
  refine Ev.bind (row_ev m l hl) ?_
  by_cases h : rowV m l = 0
  · rw [if_pos h]
    exact Ev.congr (fun k => if_pos h) (Ev.bind (rsit_ev m l ((row_iff m l).1 h)) (Ev.now _))
  · rw [if_neg h]
    exact Ev.congr (fun k => if_neg h) (Ev.now _)
theorem same_loop (l : List Int) (hl : l.length ≤ 1000000) (d : Nat) : ∀ q : Nat, q + d = l.length → Ev (fun k => pomadelaw03_same.l0 k l l (q : Int)) true := by
  induction d with
  | zero =>
    intro q hq
    refine Ev.step (f := fun _ => some true) (fun k => ?_) (Ev.now _)
    simp only [pomadelaw03_same.l0]
    rw [if_neg (by omega)]
  | succ d ih =>
    intro q hq
    refine Ev.step (fun k => ?_) (ih (q + 1) (by omega))
    simp only [pomadelaw03_same.l0]
    rw [if_pos (by omega), if_pos (by omega), if_pos (by omega), w64 (by omega) (by omega)]
    simp
theorem same_ev (l : List Int) (hl : l.length ≤ 1000000) : Ev (fun k => pomadelaw03_same.f k l l) true :=
  Ev.congr (fun k => by unfold pomadelaw03_same.f; rw [if_pos rfl]; rfl) (same_loop l hl l.length 0 (by omega))
end Go.Proofs.Ytfopeenjpdaacaa.L
