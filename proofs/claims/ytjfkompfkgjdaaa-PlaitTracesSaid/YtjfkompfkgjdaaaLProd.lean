/- The product as the program makes it is the gluing along the middle. -/
import Derived.Test.YtjfkompfkgjdaaaMJoin
import Derived.Test.YtjfkompfkgjdaaaMProd
namespace Go.Proofs.Ytjfkompfkgjdaaa.L
open Go.RowKit Go.Proofs.Ytjfkompfkgjdaaa.PC Go.Proofs.YtjfkompfkgjdaaaW.PrintWords Go.Proofs.YtjfkompfkgjdaaaW.PrintLast Go.Proofs.Ytjfkompfkgjdaaa.G
/-- a list as a function -/
def fn (l : List Int) (z : Nat) : Nat := (rd l (z : Int)).toNat
/-- a list that is a matching of 2 n points -/
structure LM (n : Nat) (l : List Int) : Prop where
  len : l.length = 2 * n
  nn : ∀ z : Nat, z < 2 * n → rd l (z : Int) = (fn l z : Int)
  mat : Mat n (fn l)
def prodL (n : Nat) (a b : List Int) : List Int := (List.range (2 * n)).map (fun p => (prod n (fn a) (fn b) p : Int))
theorem rd_range (f : Nat → Int) (N z : Nat) (h : z < N) : rd ((List.range N).map f) (z : Int) = f z := by
  simp [rd, List.getD_eq_getElem?_getD, h]
theorem prodL_rd {n : Nat} {a b : List Int} {z : Nat} (h : z < 2 * n) : rd (prodL n a b) (z : Int) = (prod n (fn a) (fn b) z : Int) := rd_range _ _ _ h
theorem prodL_len {n : Nat} {a b : List Int} : (prodL n a b).length = 2 * n := by simp [prodL]
theorem prodL_fn {n : Nat} {a b : List Int} {z : Nat} (h : z < 2 * n) : fn (prodL n a b) z = prod n (fn a) (fn b) z := by
  show (rd (prodL n a b) (z : Int)).toNat = _
  rw [prodL_rd h, Int.toNat_natCast]
theorem mat_congr {n : Nat} {a b : Nat → Nat} (h : ∀ z, z < 2 * n → a z = b z) (hb : Mat n b) : Mat n a := by
  intro z hz
  have := hb z hz
  rw [h z hz, h _ this.1]
  exact this
theorem prodL_lm {n : Nat} {a b : List Int} (ha : LM n a) (hb : LM n b) : LM n (prodL n a b) :=
  ⟨prodL_len, fun z hz => by rw [prodL_rd hz, prodL_fn hz], mat_congr (fun z hz => prodL_fn hz) (prod_mat ha.mat hb.mat)⟩
theorem list_eq {a b : List Int} (hl : a.length = b.length) (h : ∀ z : Nat, z < a.length → rd a (z : Int) = rd b (z : Int)) : a = b := by
  apply List.ext_getElem hl
  intro i h1 h2
  have := h i h1
  simpa [rd, List.getD_eq_getElem?_getD, h1, h2] using this
/-! ### the ways -/
abbrev sg (n : Nat) (a b : List Int) : Nat → Nat := jn n (fn a) (fn b)
/-- the points that a list of marks, by index, marks -/
def MT (n : Nat) (T : List Bool) (u : Nat) : Prop := T.getD (u % n) false = true
theorem getD_set (T : List Bool) (i j : Nat) (h : i < T.length) : (T.set i true).getD j false = true ↔ T.getD j false = true ∨ j = i := by
  by_cases e : i = j
  · subst e; simp [List.getD_eq_getElem?_getD, h]
  · simp only [List.getD_eq_getElem?_getD, List.getElem?_set_ne e]
    exact ⟨fun h => .inl h, fun h => h.elim id (fun f => absurd f.symm e)⟩
theorem mid_mod {n u m : Nat} (hu : pts (mids n) u) (hm : m < n) : u % n = m ↔ u = n + m ∨ u = 2 * n + m := by
  rw [mids_pts] at hu
  by_cases c : u < 2 * n
  · have e : u % n = u - n := by rw [Nat.mod_eq_sub_mod (by omega), Nat.mod_eq_of_lt (by omega)]
    rw [e]; omega
  · have e : u % n = u - n - n := by rw [Nat.mod_eq_sub_mod (by omega), Nat.mod_eq_sub_mod (by omega), Nat.mod_eq_of_lt (by omega)]
    rw [e]; omega
def zOf (n : Nat) (up : Bool) (p : Nat) : Nat := if up = true then p else 2 * n + p
/-- one step from a point to the next one -/
def stp (n : Nat) (a b : List Int) (z : Nat) : Nat := tau (mids n) (sg n a b z)
theorem way_ok {n : Nat} {a b : List Int} (ha : LM n a) (hb : LM n b) (P : Nat → Prop) (p0 : Nat) (d : Nat) : ∀ (fuel : Nat) (up : Bool) (p : Nat) (T : List Bool), d < fuel → p < 2 * n → T.length = n →
    ¬ pts (mids n) (itr (stp n a b) (d + 1) (zOf n up p)) → (∀ i, i < d → pts (mids n) (itr (stp n a b) (i + 1) (zOf n up p))) →
    W1 (sg n a b) (tau (mids n)) (pts (mids n)) P p0 (zOf n up p) (MT n T) →
    ∃ q T', plait_way a b n fuel up (p : Int) T = some ((une n q : Int), T') ∧ T'.length = n ∧ Path (sg n a b) (mids n) (zOf n up p) q ∧ W0 (sg n a b) (tau (mids n)) (pts (mids n)) (fun u => P u ∨ u = p0) (MT n T') := by
  have ho := mids_ok ha.mat hb.mat
  have hs := jn_inv ha.mat hb.mat
  have ht := tau_inv ho
  induction d with
  | zero =>
    intro fuel up p T hf hp hT h1 _ hW
    obtain ⟨k, rfl⟩ : ∃ k, fuel = k + 1 := ⟨fuel - 1, by omega⟩
    have hn : ¬ pts (mids n) (sg n a b (zOf n up p)) := fun e => h1 (tau_pts ho e)
    refine ⟨_, T, ?_, hT, .out _ hn, hW.fin hn⟩
    simp only [plait_way]
    have la := ha.len
    rw [if_pos (by omega)]
    cases up with
    | true =>
      have e : sg n a b (zOf n true p) = fn a p := jn_lo hp
      have hlt := (ha.mat p hp).1
      rw [e, mids_pts] at hn
      rw [if_pos rfl, ha.nn p hp, if_pos (decide_eq_true (by omega)).symm, e]
      unfold une; rw [if_pos (by omega)]
    | false =>
      have e : sg n a b (zOf n false p) = 2 * n + fn b p := jn_hi hp
      have hlt := (hb.mat p hp).1
      rw [e, mids_pts] at hn
      simp only [Bool.false_eq_true, ↓reduceIte]
      rw [hb.nn p hp, if_pos (decide_eq_false (by omega)).symm, e]
      unfold une; rw [if_neg (by omega), Nat.add_sub_cancel_left]
  | succ d ih =>
    intro fuel up p T hf hp hT h1 h2 hW
    obtain ⟨k, rfl⟩ : ∃ k, fuel = k + 1 := ⟨fuel - 1, by omega⟩
    have h3 : pts (mids n) (sg n a b (zOf n up p)) := by
      have := h2 0 (by omega)
      have e : itr (stp n a b) (0 + 1) (zOf n up p) = tau (mids n) (sg n a b (zOf n up p)) := rfl
      rw [e] at this
      have := tau_pts ho this
      rwa [ht] at this
    have la := ha.len
    -- the middle point
    obtain ⟨m, hm, hx, hz⟩ : ∃ m, m < n ∧ (if up = true then fn a p = n + m else fn b p = m) ∧ stp n a b (zOf n up p) = zOf n (!up) (if up = true then m else n + m) := by
      cases up with
      | true =>
        have e : sg n a b (zOf n true p) = fn a p := jn_lo hp
        have hlt := (ha.mat p hp).1
        rw [e, mids_pts] at h3
        have e2 : fn a p = n + (fn a p - n) := by omega
        refine ⟨fn a p - n, by omega, by rw [if_pos rfl]; exact e2, ?_⟩
        unfold stp
        rw [e, if_pos rfl, e2, (tau_up ha.mat hb.mat (by omega)).1, Nat.add_sub_cancel_left]
        rfl
      | false =>
        have e : sg n a b (zOf n false p) = 2 * n + fn b p := jn_hi hp
        have hlt := (hb.mat p hp).1
        rw [e, mids_pts] at h3
        refine ⟨fn b p, by omega, by rw [if_neg (by decide)], ?_⟩
        unfold stp
        rw [e, if_neg (by decide), (tau_up ha.mat hb.mat (by omega)).2]
        rfl
    have hm2 : (MT n (T.set m true)) = fun u => (T.set m true).getD (u % n) false = true := rfl
    have hM : ∀ u, pts (mids n) u → (MT n (T.set m true) u ↔ MT n T u ∨ u = sg n a b (zOf n up p) ∨ u = tau (mids n) (sg n a b (zOf n up p))) := by
      intro u hu
      unfold MT
      rw [getD_set _ _ _ (by omega), mid_mod hu hm]
      have e1 : sg n a b (zOf n up p) = if up = true then n + m else 2 * n + m := by
        cases up with
        | true => rw [if_pos rfl]; rw [if_pos rfl] at hx; exact (jn_lo hp).trans hx
        | false => rw [if_neg (by decide)]; rw [if_neg (by decide)] at hx; exact (jn_hi hp).trans (by rw [hx])
      have e2 : tau (mids n) (sg n a b (zOf n up p)) = if up = true then 2 * n + m else n + m := by
        rw [e1]
        cases up with
        | true => exact (tau_up ha.mat hb.mat hm).1
        | false => exact (tau_up ha.mat hb.mat hm).2
      rw [e2, e1]
      cases up with
      | true => simp
      | false => simp; exact ⟨fun h => h.elim .inl (fun h => .inr h.symm), fun h => h.elim .inl (fun h => .inr h.symm)⟩
    have hW' := hW.step hs ht (fun u hu => tau_pts ho hu) h3 hM
    have e4 : tau (mids n) (sg n a b (zOf n up p)) = zOf n (!up) (if up = true then m else n + m) := hz
    rw [e4] at hW'
    obtain ⟨q, T', g1, g2, g3, g4⟩ := ih k (!up) (if up = true then m else n + m) (T.set m true) (by omega) (by split <;> omega) (by simpa using hT)
      (by rw [← hz]; exact h1) (fun i hi => by rw [← hz]; exact h2 (i + 1) (by omega)) hW'
    refine ⟨q, T', ?_, g2, .via _ _ h3 (by rw [e4]; exact g3), g4⟩
    rw [← g1]
    simp only [plait_way]
    rw [if_pos (by omega)]
    cases up with
    | true =>
      rw [if_pos rfl] at hx
      have e5 : (((n + m : Nat)) : Int) % (n : Int) = (m : Int) := by
        rw [← Int.natCast_emod, Nat.add_mod_left, Nat.mod_eq_of_lt hm]
      rw [if_pos rfl, ha.nn p hp, hx, if_neg (by rw [decide_eq_false (by omega)]; decide), if_pos (by omega), if_pos rfl, if_pos rfl, e5]
      rfl
    | false =>
      rw [if_neg (by decide)] at hx
      have e5 : ((m : Nat) : Int) % (n : Int) = (m : Int) := by
        rw [← Int.natCast_emod, Nat.mod_eq_of_lt hm]
      simp only [Bool.false_eq_true, ↓reduceIte]
      rw [hb.nn p hp, hx, if_neg (by rw [decide_eq_true (by omega)]; decide), if_pos (by omega), e5]
      rw [show ((m : Nat) : Int) + (n : Int) = ((n + m : Nat) : Int) by omega]
      rfl
theorem way_start {n : Nat} {a b : List Int} (ha : LM n a) (hb : LM n b) (P : Nat → Prop) (up : Bool) (p : Nat) (T : List Bool) (hp : p < 2 * n) (hT : T.length = n) (ho : zOf n up p = emb n p)
    (hW : W0 (sg n a b) (tau (mids n)) (pts (mids n)) P (MT n T)) :
    ∃ T', plait_way a b n (2 * n + 2) up (p : Int) T = some ((prod n (fn a) (fn b) p : Int), T') ∧ T'.length = n ∧ W0 (sg n a b) (tau (mids n)) (pts (mids n)) (fun u => P u ∨ u = emb n p) (MT n T') := by
  have ok := mids_ok ha.mat hb.mat
  have hs := jn_inv ha.mat hb.mat
  have ht := tau_inv ok
  have e := emb_out hp
  obtain ⟨k, hk, h1, h2⟩ := leaves (f := stp n a b) (fun x y h => hs.inj (ht.inj h)) (pts (mids n)) (fun z => z - n) (2 * n) (fun z hz => by rw [mids_pts] at hz; omega) (fun u v hu hv h => by rw [mids_pts] at hu hv; omega) (emb n p) e.1
  rw [← ho] at h1 h2
  obtain ⟨q, T', g1, g2, g3, g4⟩ := way_ok ha hb P (emb n p) k (2 * n + 2) up p T (by omega) hp hT h1 h2 (by rw [ho]; exact hW.start e.1)
  rw [ho] at g3
  rw [prod_path ha.mat hb.mat hp g3] at g1
  exact ⟨T', g1, g2, g4⟩
end Go.Proofs.Ytjfkompfkgjdaaa.L
