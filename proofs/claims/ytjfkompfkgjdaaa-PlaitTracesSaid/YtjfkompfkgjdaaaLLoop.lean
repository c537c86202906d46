/- The product as the program makes it: all ways, the closed curves, and the whole. -/
import Derived.Test.YtjfkompfkgjdaaaLProd
import Derived.Test.YtjfkompfkgjdaaaLPart
import Derived.Test.YtjfkompfkgjdaaaPCf66
namespace Go.Proofs.Ytjfkompfkgjdaaa.L
open Go.RowKit Go.Proofs.Ytjfkompfkgjdaaa.PC Go.Proofs.YtjfkompfkgjdaaaW.PrintWords Go.Proofs.YtjfkompfkgjdaaaW.PrintLast Go.Proofs.Ytjfkompfkgjdaaa.G
theorem rd_set (l : List Int) (i j : Nat) (v : Int) (h : i < l.length) : rd (l.set i v) (j : Int) = if j = i then v else rd l (j : Int) := by
  by_cases e : i = j
  · subst e; simp [rd, List.getD_eq_getElem?_getD, h]
  · rw [if_neg (Ne.symm e)]
    simp [rd, List.getD_eq_getElem?_getD, List.getElem?_set_ne e]
/-- the outer points below i, of both sides -/
def done (n i u : Nat) : Prop := ∃ j, j < i ∧ (u = emb n j ∨ u = emb n (n + j))
theorem W0.congr {σ τ : Nat → Nat} {mid P Q M : Nat → Prop} (h : W0 σ τ mid P M) (hq : ∀ u, Q u → P u) : W0 σ τ mid Q M :=
  ⟨fun u hu => h.cl u (hu.elim .inl (fun e => .inr ⟨e.1, hq u e.2⟩)), h.ct, h.low⟩
theorem ways_ok {n : Nat} {a b : List Int} (ha : LM n a) (hb : LM n b) (d : Nat) : ∀ (i : Nat) (out : List Int) (T : List Bool), i + d = n → out.length = 2 * n → T.length = n →
    (∀ j, j < i → rd out (j : Int) = (prod n (fn a) (fn b) j : Int) ∧ rd out ((n + j : Nat) : Int) = (prod n (fn a) (fn b) (n + j) : Int)) →
    W0 (sg n a b) (tau (mids n)) (pts (mids n)) (done n i) (MT n T) →
    ∃ T', plait_ways a b n d i out T = some (prodL n a b, T') ∧ T'.length = n ∧ W0 (sg n a b) (tau (mids n)) (pts (mids n)) (done n n) (MT n T') := by
  induction d with
  | zero =>
    intro i out T hi ho hT hr hW
    obtain rfl : i = n := by omega
    refine ⟨T, ?_, hT, hW⟩
    have e : out = prodL i a b := by
      refine list_eq (by rw [prodL_len, ho]) (fun z hz => ?_)
      rw [prodL_rd (by omega)]
      by_cases c : z < i
      · exact (hr z c).1
      · have := (hr (z - i) (by omega)).2
        rwa [show i + (z - i) = z by omega] at this
    rw [e]; rfl
  | succ d ih =>
    intro i out T hi ho hT hr hW
    have e1 : emb n i = i := by unfold emb; rw [if_pos (by omega)]
    have e2 : emb n (n + i) = 2 * n + (n + i) := by unfold emb; rw [if_neg (by omega)]; omega
    obtain ⟨T1, g1, l1, w1⟩ := way_start ha hb _ true i T (by omega) hT e1.symm hW
    obtain ⟨T2, g2, l2, w2⟩ := way_start ha hb _ false (n + i) T1 (by omega) l1 e2.symm w1
    obtain ⟨T', g3, l3, w3⟩ := ih (i + 1) ((out.set i (prod n (fn a) (fn b) i : Int)).set (n + i) (prod n (fn a) (fn b) (n + i) : Int)) T2 (by omega) (by simpa using ho) l2 (by
      intro j hj
      have lo : n + i < (out.set i (prod n (fn a) (fn b) i : Int)).length := by simp; omega
      rw [rd_set _ _ _ _ lo, rd_set _ _ _ _ (by omega), rd_set _ _ _ _ lo, rd_set _ _ _ _ (by omega)]
      by_cases c : j = i
      · subst c
        rw [if_neg (by omega), if_pos rfl, if_pos rfl]; exact ⟨rfl, rfl⟩
      · rw [if_neg (by omega), if_neg c, if_neg (by omega), if_neg (by omega)]
        exact hr j (by omega)) (W0.congr w2 (fun u ⟨j, hj, hu⟩ => by
          by_cases c : j = i
          · subst c
            rcases hu with hu | hu
            · exact .inl (.inr hu)
            · exact .inr hu
          · exact .inl (.inl ⟨j, by omega, hu⟩)))
    refine ⟨T', ?_, l3, w3⟩
    simp only [plait_ways]
    rw [g1, Option.bind_some, g2, Option.bind_some]
    exact g3
/-! ### the closed curves -/
/-- at which indices the walks stand: over the lower diagram first -/
abbrev fA (n : Nat) (a : List Int) (m : Nat) : Nat := fn a (n + m) - n
abbrev CL (n : Nat) (a b : List Int) : Nat → Prop := Cl n (fn a) (fn b)
def bM (T : List Bool) (m : Nat) : Prop := T.getD m false = true
theorem count_pos {T : List Bool} {i : Nat} (hi : i < T.length) (h : T.getD i false = false) : T.count false ≠ 0 := by
  have := count_set T i hi h; omega
theorem round_ok {n : Nat} {a b : List Int} (hn : n ≤ 1000) (ha : LM n a) (hb : LM n b) (T0 : List Bool) (i : Nat) (c : Nat) : ∀ (fuel at_ : Nat) (T : List Bool), c < fuel → T.count false ≤ c → T.length = n →
    (∀ m, m < n → ¬ CL n a b m → bM T m) → Rd (CL n a b) (fn b) (fA n a) (bM T0) (bM T) i at_ →
    ∃ T', plait_round a b n fuel (at_ : Int) T = some T' ∧ T'.length = n ∧ (∀ m, m < n → ¬ CL n a b m → bM T' m) ∧ ∀ m, CL n a b m → (bM T' m ↔ bM T0 m ∨ Conn (fn b) (fA n a) i m) := by
  obtain ⟨pa, pb⟩ := cl_pairs ha.mat hb.mat
  have hIx := cl_ixs ha.mat hb.mat
  induction c with
  | zero =>
    intro fuel at_ T hf hc hT hU hR
    obtain ⟨k, rfl⟩ : ∃ k, fuel = k + 1 := ⟨fuel - 1, by omega⟩
    have hat := hR.uc.1
    have ht : bM T at_ := by
      unfold bM
      cases e : T.getD at_ false with
      | true => rfl
      | false => exact absurd (Nat.le_zero.1 hc) (count_pos (by omega) e)
    refine ⟨T, ?_, hT, hU, hR.fin pb pa ht⟩
    simp only [plait_round]
    rw [if_pos (by omega), Int.toNat_natCast, if_pos (show T.getD at_ false = true from ht)]
  | succ c ih =>
    intro fuel at_ T hf hc hT hU hR
    obtain ⟨k, rfl⟩ : ∃ k, fuel = k + 1 := ⟨fuel - 1, by omega⟩
    have hat := hR.uc.1
    by_cases ht : bM T at_
    · refine ⟨T, ?_, hT, hU, hR.fin pb pa ht⟩
      simp only [plait_round]
      rw [if_pos (by omega), Int.toNat_natCast, if_pos (show T.getD at_ false = true from ht)]
    · have uB := pb.mem at_ hR.uc
      have hbl := uB.1
      have e := count_set T at_ (by omega) (by unfold bM at ht; simpa using ht)
      have e2 := count_set_le (T.set at_ true) (fn b at_)
      have hM : ∀ m, CL n a b m → (bM ((T.set at_ true).set (fn b at_) true) m ↔ bM T m ∨ m = at_ ∨ m = fn b at_) := by
        intro m _
        unfold bM
        rw [getD_set _ _ _ (by simp; omega), getD_set _ _ _ (by omega), or_assoc]
      obtain ⟨T', g1, g2, g3, g4⟩ := ih k (fA n a (fn b at_)) ((T.set at_ true).set (fn b at_) true) (by omega) (by omega) (by simpa using hT)
        (fun m hm h => by unfold bM; rw [getD_set _ _ _ (by simp; omega), getD_set _ _ _ (by omega)]; exact .inl (.inl (hU m hm h))) (hR.step pb pa ht hM)
      refine ⟨T', ?_, g2, g3, g4⟩
      simp only [plait_round]
      have s1 := (hIx.sA _ uB).2
      simp only [up] at s1
      rw [jn_lo (by omega)] at s1
      have e3 : rd a (rd b (at_ : Int) + (n : Int)) = ((n + fA n a (fn b at_) : Nat) : Int) := by
        rw [hb.nn at_ (by omega), show (fn b at_ : Int) + (n : Int) = ((n + fn b at_ : Nat) : Int) by omega, ha.nn _ (by omega), s1]
      have hlt : fA n a (fn b at_) < n := (pa.mem _ uB).1
      rw [if_pos (by omega), Int.toNat_natCast, if_neg (show ¬ T.getD at_ false = true from ht), e3, hb.nn at_ (by omega), if_pos (by omega), Int.toNat_natCast, show ((n + fA n a (fn b at_) : Nat) : Int) - (n : Int) = (fA n a (fn b at_) : Int) by omega, pw64 (by omega) (by omega)]
      exact g1
theorem loops_ok {n : Nat} {a b : List Int} (hn : n ≤ 1000) (ha : LM n a) (hb : LM n b) (d : Nat) : ∀ (i : Nat) (T : List Bool), i + d = n → T.length = n →
    (∀ m, m < n → ¬ CL n a b m → bM T m) → MetI (CL n a b) (fn b) (fA n a) i (bM T) →
    plait_loops a b n d i (cntP (Fst (CL n a b) (fn b) (fA n a)) i) T = some (cntP (Fst (CL n a b) (fn b) (fA n a)) n) := by
  obtain ⟨pa, pb⟩ := cl_pairs ha.mat hb.mat
  induction d with
  | zero => intro i T hi hT hU hM; obtain rfl : i = n := by omega
            rfl
  | succ d ih =>
    intro i T hi hT hU hM
    simp only [plait_loops]
    by_cases c : bM T i
    · obtain ⟨m1, m2⟩ := hM.skip (fun _ => c)
      rw [if_pos (show T.getD i false = true from c)]
      have := ih (i + 1) T (by omega) hT hU m1
      simp only [cntP] at this
      rwa [if_neg m2] at this
    · have ui : CL n a b i := Classical.byContradiction fun e => c (hU i (by omega) e)
      obtain ⟨ca, cb⟩ := hM.closed pb pa
      obtain ⟨T', g1, g2, g3, g4⟩ := round_ok hn ha hb T i n (n + 1) i T (by omega) (by rw [← hT]; exact List.count_le_length) hT hU (Rd.start pb pa ca cb ui c)
      obtain ⟨m1, m2⟩ := hM.round ui c g4
      rw [if_neg (show ¬ T.getD i false = true from c), g1, Option.bind_some]
      have := ih (i + 1) T' (by omega) g2 g3 m1
      simp only [cntP] at this
      rwa [if_pos m2] at this
theorem done_all {n : Nat} {a b : List Int} (ha : LM n a) (hb : LM n b) (u : Nat) (hu : ¬ pts (mids n) u) : done n n u ∨ sg n a b u = u := by
  by_cases c : u < 4 * n
  · refine .inl ?_
    have e := emb_une hu c
    by_cases d : une n u < n
    · exact ⟨une n u, d, .inl e.1.symm⟩
    · exact ⟨une n u - n, by omega, .inr (by rw [show n + (une n u - n) = une n u by omega]; exact e.1.symm)⟩
  · exact .inr (jn_off (by omega))
/-- the program's product is the gluing -/
theorem product_ok {n : Nat} {a b : List Int} (hn : n ≤ 500) (ha : LM n a) (hb : LM n b) : plait_diagram_product.f a b = some (prodL n a b, (lops n (fn a) (fn b) : Int)) := by
  have ho := mids_ok ha.mat hb.mat
  have la := ha.len
  have lb := hb.len
  have e : a.length / 2 = n := by omega
  have w0 : W0 (sg n a b) (tau (mids n)) (pts (mids n)) (done n 0) (MT n (List.replicate n false)) := by
    have no : ∀ u, ¬ MT n (List.replicate n false) u := fun u h => by
      unfold MT at h
      rw [List.getD_eq_getElem?_getD, List.getElem?_replicate] at h
      split at h <;> simp at h
    exact ⟨fun u hu => hu.elim (fun h => absurd h.2 (no u)) (fun h => by obtain ⟨j, hj, _⟩ := h.2; omega), fun u _ h => absurd h (no u), fun u _ h => absurd h (no u)⟩
  obtain ⟨T, g1, g2, g3⟩ := ways_ok ha hb n 0 (List.replicate (2 * n) 0) (List.replicate n false) (by omega) (by simp) (by simp) (fun j hj => by omega) w0
  have all := g3.all (fun u hu => (tau_out ho).2 hu) (done_all ha hb)
  have hT : ∀ m, m < n → (bM T m ↔ ¬ CL n a b m) := by
    intro m hm
    rw [← met_cl ha.mat hb.mat hm, ← all (n + m) (mids_pts.2 (by omega))]
    unfold MT bM
    rw [Nat.add_mod_left, Nat.mod_eq_of_lt hm]
  have g4 := loops_ok (by omega) ha hb n 0 T (by omega) g2 (fun m hm h => (hT m hm).2 h) (fun m um => ⟨fun t => absurd um ((hT m um.1).1 t), fun ⟨j, hj, _⟩ => by omega⟩)
  unfold plait_diagram_product.f
  rw [if_pos (by omega), e, la, g1, Option.bind_some]
  simp only [cntP] at g4
  rw [g4, Option.bind_some, lops_fst ha.mat hb.mat, cntP_congr n (fun i _ => fst_swap)]
end Go.Proofs.Ytjfkompfkgjdaaa.L
