/- The product as the specification makes it is the gluing along the middle. -/
import Derived.Test.YtjfkompfkgjdaaaLLoop
import Derived.Test.YtjfkompfkgjdaaaPCg3
namespace Go.Proofs.Ytjfkompfkgjdaaa.L
open Go.RowKit Go.Proofs.Ytjfkompfkgjdaaa.PC Go.Proofs.YtjfkompfkgjdaaaW.PrintWords Go.Proofs.YtjfkompfkgjdaaaW.PrintLast Go.Proofs.Ytjfkompfkgjdaaa.G
theorem sg_step {n : Nat} {a b : List Int} (hn : n ≤ 500) (ha : LM n a) (hb : LM n b) (T : List Bool) (out : List Int) (i z : Nat) (hz : z < 4 * n) (k : Nat) :
    pomaderef07_product.l1 (k + 1) a b (n : Int) T out (i : Int) (z : Int) = pomaderef07_product.j3 k a b (n : Int) T out (i : Int) (sg n a b z : Int) := by
  have la := ha.len
  have lb := hb.len
  simp only [pomaderef07_product.l1]
  rw [pw64 (x := 2 * (n : Int)) (by omega) (by omega)]
  by_cases c : z < 2 * n
  · rw [if_pos (by omega), if_pos (by omega), if_pos (by omega), ha.nn z c, show sg n a b z = fn a z from jn_lo c]
  · obtain ⟨y, rfl⟩ : ∃ y, z = 2 * n + y := ⟨z - 2 * n, by omega⟩
    have hy : y < 2 * n := by omega
    have := (hb.mat y hy).1
    rw [if_neg (by omega), pw64 (x := ((2 * n + y : Nat) : Int) - 2 * (n : Int)) (by omega) (by omega), show ((2 * n + y : Nat) : Int) - 2 * (n : Int) = (y : Int) by omega, if_pos (by omega), if_pos (by omega), hb.nn y hy, pw64 (by omega) (by omega), show sg n a b (2 * n + y) = 2 * n + fn b y from jn_hi hy]
    congr 1
theorem j3_step {n : Nat} {a b : List Int} (hn : n ≤ 500) (T : List Bool) (hT : T.length = 4 * n) (out : List Int) (i x : Nat) (hx : x < 4 * n) (k : Nat) :
    pomaderef07_product.j3 (k + 1) a b (n : Int) T out (i : Int) (x : Int) = pomaderef07_product.j4 k a b (n : Int) (T.set x true) out (i : Int) (x : Int) (decide (x < n ∨ 3 * n ≤ x)) := by
  simp only [pomaderef07_product.j3]
  rw [if_pos (by omega), if_pos (by omega), Option.bind_some, pw64 (x := 3 * (n : Int)) (by omega) (by omega), Int.toNat_natCast]
  by_cases c : x < n
  · rw [if_pos (by omega), decide_eq_true (.inl c)]
  · rw [if_neg (by omega)]
    congr 1
    rw [decide_eq_decide]; omega
theorem ref_way {n : Nat} {a b : List Int} (hn : n ≤ 500) (ha : LM n a) (hb : LM n b) (P : Nat → Prop) (p0 : Nat) (out : List Int) (ho2 : out.length = 2 * n) (i : Nat) (hi : i < 2 * n) (d : Nat) : ∀ (z : Nat) (T : List Bool), z < 4 * n → T.length = 4 * n →
    ¬ pts (mids n) (itr (stp n a b) (d + 1) z) → (∀ i, i < d → pts (mids n) (itr (stp n a b) (i + 1) z)) →
    W1 (sg n a b) (tau (mids n)) (pts (mids n)) P p0 z (bM T) →
    ∃ q T', T'.length = 4 * n ∧ Path (sg n a b) (mids n) z q ∧ W0 (sg n a b) (tau (mids n)) (pts (mids n)) (fun u => P u ∨ u = p0) (bM T') ∧
      ∀ r, Ev (fun k => pomaderef07_product.l0 k a b (n : Int) T' (out.set i (une n q : Int)) ((i + 1 : Nat) : Int)) r → Ev (fun k => pomaderef07_product.l1 k a b (n : Int) T out (i : Int) (z : Int)) r := by
  have ho := mids_ok ha.mat hb.mat
  have hs := jn_inv ha.mat hb.mat
  have ht := tau_inv ho
  have bset : ∀ (T : List Bool) (x u : Nat), x < T.length → (bM (T.set x true) u ↔ bM T u ∨ u = x) := fun T x u h => getD_set T x u h
  induction d with
  | zero =>
    intro z T hz hT h1 _ hW
    have hn' : ¬ pts (mids n) (sg n a b z) := fun e => h1 (tau_pts ho e)
    have hlt : sg n a b z < 4 * n := jn_lt ha.mat hb.mat hz
    have hout := hn'
    rw [mids_pts] at hout
    refine ⟨sg n a b z, T.set (sg n a b z) true, by simpa using hT, .out _ hn', ?_, fun r hr => ?_⟩
    · have w := hW.fin hn'
      have same : ∀ u, pts (mids n) u → (bM (T.set (sg n a b z) true) u ↔ bM T u) := fun u hu => by
        rw [bset _ _ _ (by omega)]
        exact ⟨fun h => h.elim id (fun e => absurd (e ▸ hu) hn'), .inl⟩
      refine ⟨fun u hu => ?_, fun u hu h => ?_, fun u hu h => w.low u hu ((same u hu).1 h)⟩
      · by_cases m : pts (mids n) (sg n a b u)
        · have := w.cl u (hu.elim (fun h => .inl ⟨h.1, (same u h.1).1 h.2⟩) .inr)
          exact .inr ((same _ m).2 (this.resolve_left (fun f => f m)))
        · exact .inl m
      · exact (same _ (tau_pts ho hu)).2 (w.ct u hu ((same u hu).1 h))
    · refine Ev.step (fun k => sg_step hn ha hb T out i z hz k) (Ev.step (fun k => j3_step hn T hT out i _ hlt k) (Ev.step (fun k => ?_) hr))
      rw [decide_eq_true (by omega)]
      simp only [pomaderef07_product.j4]
      rw [if_pos trivial, pw64 (x := 3 * (n : Int)) (by omega) (by omega)]
      have e1 : wrap64 ((i : Int) + 1) = ((i + 1 : Nat) : Int) := by rw [pw64 (by omega) (by omega)]; rfl
      by_cases c : sg n a b z < n
      · rw [if_neg (by omega), if_pos (by omega), if_pos (by omega), Int.toNat_natCast, e1]
        unfold une; rw [if_pos c]
      · rw [if_pos (by omega), if_pos (by omega), if_pos (by omega), Int.toNat_natCast, e1, pw64 (x := 2 * (n : Int)) (by omega) (by omega), pw64 (by omega) (by omega)]
        unfold une; rw [if_neg c, show ((sg n a b z : Nat) : Int) - 2 * (n : Int) = ((sg n a b z - 2 * n : Nat) : Int) by omega]
  | succ d ih =>
    intro z T hz hT h1 h2 hW
    have h3 : pts (mids n) (sg n a b z) := by
      have := h2 0 (by omega)
      have e : itr (stp n a b) (0 + 1) z = tau (mids n) (sg n a b z) := rfl
      rw [e] at this
      have := tau_pts ho this
      rwa [ht] at this
    have h3' := mids_pts.1 h3
    have h4' := mids_pts.1 (tau_pts ho h3)
    have hM : ∀ u, pts (mids n) u → (bM ((T.set (sg n a b z) true).set (tau (mids n) (sg n a b z)) true) u ↔ bM T u ∨ u = sg n a b z ∨ u = tau (mids n) (sg n a b z)) := by
      intro u _
      rw [bset _ _ _ (by simp; omega), bset _ _ _ (by omega), or_assoc]
    obtain ⟨q, T', g1, g2, g3, g4⟩ := ih (tau (mids n) (sg n a b z)) _ (by omega) (by simpa using hT) h1 (fun i hi => h2 (i + 1) (by omega)) (hW.step hs ht (fun u hu => tau_pts ho hu) h3 hM)
    refine ⟨q, T', g1, .via _ _ h3 g2, g3, fun r hr => ?_⟩
    refine Ev.step (fun k => sg_step hn ha hb T out i z hz k) (Ev.step (fun k => j3_step hn T hT out i _ (by omega) k) (Ev.step (fun k => ?_) (g4 r hr)))
    rw [decide_eq_false (by omega)]
    simp only [pomaderef07_product.j4]
    rw [if_neg (by decide), pw64 (x := 2 * (n : Int)) (by omega) (by omega)]
    by_cases c : sg n a b z < 2 * n
    · have e : tau (mids n) (sg n a b z) = sg n a b z + n := by
        have := (tau_up ha.mat hb.mat (m := sg n a b z - n) (by omega)).1
        rw [show n + (sg n a b z - n) = sg n a b z by omega] at this
        rw [this]; omega
      rw [if_pos (by omega), pw64 (by omega) (by omega), if_pos (by omega), if_pos (by simp; omega), e]
      rfl
    · have e : tau (mids n) (sg n a b z) = sg n a b z - n := by
        have := (tau_up ha.mat hb.mat (m := sg n a b z - 2 * n) (by omega)).2
        rw [show 2 * n + (sg n a b z - 2 * n) = sg n a b z by omega] at this
        rw [this]; omega
      rw [if_neg (by omega), pw64 (by omega) (by omega), if_pos (by omega), if_pos (by simp; omega), e, show ((sg n a b z : Nat) : Int) - (n : Int) = ((sg n a b z - n : Nat) : Int) by omega]
      rfl
theorem ref_ways {n : Nat} {a b : List Int} (hn : n ≤ 500) (ha : LM n a) (hb : LM n b) (d : Nat) : ∀ (i : Nat) (out : List Int) (T : List Bool), i + d = 2 * n → out.length = 2 * n → T.length = 4 * n →
    (∀ j, j < i → rd out (j : Int) = (prod n (fn a) (fn b) j : Int)) →
    W0 (sg n a b) (tau (mids n)) (pts (mids n)) (fun u => ∃ j, j < i ∧ u = emb n j) (bM T) →
    ∃ T', T'.length = 4 * n ∧ W0 (sg n a b) (tau (mids n)) (pts (mids n)) (fun u => ∃ j, j < 2 * n ∧ u = emb n j) (bM T') ∧
      ∀ r, Ev (fun k => pomaderef07_product.l2 k a b (n : Int) T' (prodL n a b) 0 (n : Int)) r → Ev (fun k => pomaderef07_product.l0 k a b (n : Int) T out (i : Int)) r := by
  have ho := mids_ok ha.mat hb.mat
  have hs := jn_inv ha.mat hb.mat
  have ht := tau_inv ho
  induction d with
  | zero =>
    intro i out T hi hl hT hr hW
    obtain rfl : i = 2 * n := by omega
    have e : out = prodL n a b := list_eq (by rw [prodL_len, hl]) (fun z hz => by rw [prodL_rd (by omega), hr z (by omega)])
    refine ⟨T, hT, hW, fun r hr => Ev.step (fun k => ?_) hr⟩
    simp only [pomaderef07_product.l0]
    rw [pw64 (by omega) (by omega), if_neg (by omega), e]
  | succ d ih =>
    intro i out T hi hl hT hr hW
    have em := emb_out (n := n) (p := i) (by omega)
    obtain ⟨k, hk, h1, h2⟩ := leaves (f := stp n a b) (fun x y h => hs.inj (ht.inj h)) (pts (mids n)) (fun z => z - n) (2 * n) (fun z hz => by rw [mids_pts] at hz; omega) (fun u v hu hv h => by rw [mids_pts] at hu hv; omega) (emb n i) em.1
    have same : ∀ u, pts (mids n) u → (bM (T.set (emb n i) true) u ↔ bM T u) := fun u hu => by
      rw [show bM (T.set (emb n i) true) u ↔ _ from getD_set T _ u (by omega)]
      exact ⟨fun h => h.elim id (fun e => absurd (e ▸ hu) em.1), .inl⟩
    have w1 : W0 (sg n a b) (tau (mids n)) (pts (mids n)) (fun u => ∃ j, j < i ∧ u = emb n j) (bM (T.set (emb n i) true)) := by
      refine ⟨fun u hu => ?_, fun u hu h => ?_, fun u hu h => hW.low u hu ((same u hu).1 h)⟩
      · by_cases m : pts (mids n) (sg n a b u)
        · have := hW.cl u (hu.elim (fun h => .inl ⟨h.1, (same u h.1).1 h.2⟩) .inr)
          exact .inr ((same _ m).2 (this.resolve_left (fun f => f m)))
        · exact .inl m
      · exact (same _ (tau_pts ho hu)).2 (hW.ct u hu ((same u hu).1 h))
    obtain ⟨q, T1, g1, g2, g3, g4⟩ := ref_way hn ha hb _ (emb n i) out hl i (by omega) k (emb n i) (T.set (emb n i) true) em.2 (by simpa using hT) h1 h2 (w1.start em.1)
    rw [prod_path ha.mat hb.mat (by omega) g2] at g4
    obtain ⟨T', g5, g6, g7⟩ := ih (i + 1) (out.set i (prod n (fn a) (fn b) i : Int)) T1 (by omega) (by simpa using hl) g1 (by
      intro j hj
      rw [rd_set _ _ _ _ (by omega)]
      by_cases c : j = i
      · rw [if_pos c, c]
      · rw [if_neg c]; exact hr j (by omega)) (W0.congr g3 (fun u ⟨j, hj, hu⟩ => by
          by_cases c : j = i
          · exact .inr (c ▸ hu)
          · exact .inl ⟨j, by omega, hu⟩))
    refine ⟨T', g5, g6, fun r hr => ?_⟩
    refine Ev.step (f := fun k => pomaderef07_product.j1 k a b (n : Int) T out (i : Int) (emb n i : Int)) (fun k => ?_) (Ev.step (fun k => ?_) (g4 r (g7 r hr)))
    · simp only [pomaderef07_product.l0]
      rw [pw64 (x := 2 * (n : Int)) (by omega) (by omega), if_pos (by omega)]
      by_cases c : i < n
      · rw [if_neg (by omega), show emb n i = i by unfold emb; rw [if_pos c]]
      · rw [if_pos (by omega), pw64 (by omega) (by omega), show emb n i = i + 2 * n by unfold emb; rw [if_neg c]]
        rfl
    · simp only [pomaderef07_product.j1]
      rw [if_pos (by omega), if_pos (by omega), Int.toNat_natCast]
theorem ref_round {n : Nat} {a b : List Int} (hn : n ≤ 500) (ha : LM n a) (hb : LM n b) (T0 : List Bool) (out : List Int) (many : Int) (i : Nat) (hi : i < n) (c : Nat) : ∀ (m : Nat) (T : List Bool), T.count false ≤ c → T.length = 4 * n →
    (∀ m, m < n → ¬ CL n a b m → bM T (n + m)) → Rd (CL n a b) (fA n a) (fn b) (fun m => bM T0 (n + m)) (fun m => bM T (n + m)) i m →
    ∃ T', T'.length = 4 * n ∧ (∀ m, m < n → ¬ CL n a b m → bM T' (n + m)) ∧ (∀ m, CL n a b m → (bM T' (n + m) ↔ bM T0 (n + m) ∨ Conn (fA n a) (fn b) i m)) ∧
      ∀ r, Ev (fun k => pomaderef07_product.l2 k a b (n : Int) T' out many ((n + i + 1 : Nat) : Int)) r → Ev (fun k => pomaderef07_product.l3 k a b (n : Int) T out many ((n + i : Nat) : Int) ((n + m : Nat) : Int)) r := by
  obtain ⟨pa, pb⟩ := cl_pairs ha.mat hb.mat
  have hIx := cl_ixs ha.mat hb.mat
  have la := ha.len
  have lb := hb.len
  have stop : ∀ (m : Nat) (T : List Bool), T.length = 4 * n → m < n → bM T (n + m) → ∀ r, Ev (fun k => pomaderef07_product.l2 k a b (n : Int) T out many ((n + i + 1 : Nat) : Int)) r → Ev (fun k => pomaderef07_product.l3 k a b (n : Int) T out many ((n + i : Nat) : Int) ((n + m : Nat) : Int)) r := by
    intro m T hT hm ht r hr
    refine Ev.step (fun k => ?_) hr
    simp only [pomaderef07_product.l3]
    rw [if_pos (by omega), if_pos (by omega), if_pos (show rdOf false T ((n + m : Nat) : Int) = true from ht), pw64 (by omega) (by omega)]
    rfl
  induction c with
  | zero =>
    intro m T hc hT hU hR
    have hm := hR.uc.1
    have ht : bM T (n + m) := by
      unfold bM
      cases e : T.getD (n + m) false with
      | true => rfl
      | false => exact absurd (Nat.le_zero.1 hc) (count_pos (by omega) e)
    exact ⟨T, hT, hU, hR.fin pa pb ht, stop m T hT hm ht⟩
  | succ c ih =>
    intro m T hc hT hU hR
    have hm := hR.uc.1
    by_cases ht : bM T (n + m)
    · exact ⟨T, hT, hU, hR.fin pa pb ht, stop m T hT hm ht⟩
    · have uA := pa.mem m hR.uc
      have hA : fA n a m < n := uA.1
      have uB := pb.mem _ uA
      have hB : fn b (fA n a m) < n := uB.1
      have s1 := (hIx.sA m hR.uc).2
      simp only [up] at s1
      rw [jn_lo (by omega)] at s1
      have e := count_set T (n + m) (by omega) (by unfold bM at ht; simpa using ht)
      have e2 := count_set_le (T.set (n + m) true) (n + fA n a m)
      have e3 := count_set_le ((T.set (n + m) true).set (n + fA n a m) true) (2 * n + fn b (fA n a m))
      have bs : ∀ (T : List Bool) (x u : Nat), x < T.length → (bM (T.set x true) u ↔ bM T u ∨ u = x) := fun T x u h => getD_set T x u h
      have all : ∀ m', m' < n → (bM (((T.set (n + m) true).set (n + fA n a m) true).set (2 * n + fn b (fA n a m)) true) (n + m') ↔ bM T (n + m') ∨ m' = m ∨ m' = fA n a m) := by
        intro m' hm'
        rw [bs _ _ _ (by simp; omega), bs _ _ _ (by simp; omega), bs _ _ _ (by omega)]
        constructor
        · rintro (((h | h) | h) | h)
          · exact .inl h
          · exact .inr (.inl (by omega))
          · exact .inr (.inr (by omega))
          · omega
        · rintro (h | h | h)
          · exact .inl (.inl (.inl h))
          · exact .inl (.inl (.inr (by rw [h])))
          · exact .inl (.inr (by rw [h]))
      obtain ⟨T', g1, g2, g3, g4⟩ := ih (fn b (fA n a m)) _ (by omega) (by simpa using hT)
        (fun m' hm' h => (all m' hm').2 (.inl (hU m' hm' h))) (hR.step pa pb ht (fun m' um' => all m' um'.1))
      refine ⟨T', g1, g2, g3, fun r hr => ?_⟩
      refine Ev.step (fun k => ?_) (g4 r hr)
      simp only [pomaderef07_product.l3]
      have f1 : rd a ((n + m : Nat) : Int) = ((n + fA n a m : Nat) : Int) := by rw [ha.nn _ (by omega), s1]
      have f2 : rd b ((fA n a m : Nat) : Int) = (fn b (fA n a m) : Int) := hb.nn _ (by omega)
      rw [if_pos (by omega), if_pos (by omega), if_neg (show ¬ rdOf false T ((n + m : Nat) : Int) = true from ht), if_pos (by omega), f1, if_pos (by omega), if_pos (by omega), pw64 (x := ((n + fA n a m : Nat) : Int) - (n : Int)) (by omega) (by omega), show ((n + fA n a m : Nat) : Int) - (n : Int) = (fA n a m : Int) by omega, if_pos (by omega), if_pos (by omega), f2, pw64 (x := 2 * (n : Int)) (by omega) (by omega), pw64 (x := 2 * (n : Int) + (fn b (fA n a m) : Int)) (by omega) (by omega), if_pos (by omega), if_pos (by omega), pw64 (by omega) (by omega), show 2 * (n : Int) + (fn b (fA n a m) : Int) - (n : Int) = ((n + fn b (fA n a m) : Nat) : Int) by omega, show (2 * (n : Int) + (fn b (fA n a m) : Int)).toNat = 2 * n + fn b (fA n a m) by omega]
      rfl
theorem ref_loops {n : Nat} {a b : List Int} (hn : n ≤ 500) (ha : LM n a) (hb : LM n b) (out : List Int) (d : Nat) : ∀ (i : Nat) (T : List Bool), i + d = n → T.length = 4 * n →
    (∀ m, m < n → ¬ CL n a b m → bM T (n + m)) → MetI (CL n a b) (fA n a) (fn b) i (fun m => bM T (n + m)) →
    Ev (fun k => pomaderef07_product.l2 k a b (n : Int) T out (cntP (Fst (CL n a b) (fA n a) (fn b)) i : Int) ((n + i : Nat) : Int)) (out, (cntP (Fst (CL n a b) (fA n a) (fn b)) n : Int)) := by
  obtain ⟨pa, pb⟩ := cl_pairs ha.mat hb.mat
  induction d with
  | zero =>
    intro i T hi hT hU hM
    obtain rfl : i = n := by omega
    refine Ev.step (f := fun _ => some (out, (cntP (Fst (CL i a b) (fA i a) (fn b)) i : Int))) (fun k => ?_) (Ev.now _)
    simp only [pomaderef07_product.l2]
    rw [pw64 (by omega) (by omega), if_neg (by omega)]
  | succ d ih =>
    intro i T hi hT hU hM
    have hle := cntP_le (Fst (CL n a b) (fA n a) (fn b)) i
    by_cases c : bM T (n + i)
    · obtain ⟨m1, m2⟩ := hM.skip (fun _ => c)
      have := ih (i + 1) T (by omega) hT hU m1
      simp only [cntP] at this
      rw [if_neg m2] at this
      refine Ev.step (fun k => ?_) this
      simp only [pomaderef07_product.l2]
      rw [pw64 (x := 2 * (n : Int)) (by omega) (by omega), if_pos (by omega), if_pos (by omega), if_pos (by omega), if_pos (show rdOf false T ((n + i : Nat) : Int) = true from c), pw64 (by omega) (by omega)]
      rfl
    · have ui : CL n a b i := Classical.byContradiction fun e => c (hU i (by omega) e)
      obtain ⟨ca, cb⟩ := hM.closed pa pb
      obtain ⟨m2, g1, g2, g3, g4⟩ := ref_round hn ha hb T out (cntP (Fst (CL n a b) (fA n a) (fn b)) i + 1 : Nat) i (by omega) _ i T (Nat.le_refl _) hT hU (Rd.start pa pb ca cb ui c)
      obtain ⟨n1, n2⟩ := hM.round ui c g3
      have := ih (i + 1) m2 (by omega) g1 g2 n1
      simp only [cntP] at this
      rw [if_pos n2] at this
      refine Ev.step (fun k => ?_) (g4 _ this)
      simp only [pomaderef07_product.l2]
      rw [pw64 (x := 2 * (n : Int)) (by omega) (by omega), if_pos (by omega), if_pos (by omega), if_pos (by omega), if_neg (show ¬ rdOf false T ((n + i : Nat) : Int) = true from c), pw64 (by omega) (by omega)]
      rfl
/-- the specification's product is the gluing -/
theorem ref_product {n : Nat} {a b : List Int} (hn : n ≤ 500) (ha : LM n a) (hb : LM n b) : Ev (fun k => pomaderef07_product.f k a b) (prodL n a b, (lops n (fn a) (fn b) : Int)) := by
  have ho := mids_ok ha.mat hb.mat
  have la := ha.len
  have w0 : W0 (sg n a b) (tau (mids n)) (pts (mids n)) (fun u => ∃ j, j < 0 ∧ u = emb n j) (bM (List.replicate (4 * n) false)) := by
    have no : ∀ u, ¬ bM (List.replicate (4 * n) false) u := fun u h => by
      unfold bM at h
      rw [List.getD_eq_getElem?_getD, List.getElem?_replicate] at h
      split at h <;> simp at h
    exact ⟨fun u hu => hu.elim (fun h => absurd h.2 (no u)) (fun h => by obtain ⟨j, hj, _⟩ := h.2; omega), fun u _ h => absurd h (no u), fun u _ h => absurd h (no u)⟩
  obtain ⟨T, g1, g2, g3⟩ := ref_ways hn ha hb (2 * n) 0 (List.replicate (2 * n) 0) (List.replicate (4 * n) false) (by omega) (by simp) (by simp) (fun j hj => by omega) w0
  have all := g2.all (fun u hu => (tau_out ho).2 hu) (fun u hu => by
    by_cases c : u < 4 * n
    · have e := emb_une hu c; exact .inl ⟨une n u, e.2, e.1.symm⟩
    · exact .inr (jn_off (by omega)))
  have hT : ∀ m, m < n → (bM T (n + m) ↔ ¬ CL n a b m) := fun m hm => by
    rw [← met_cl ha.mat hb.mat hm, ← all (n + m) (mids_pts.2 (by omega))]
  have g4 := ref_loops hn ha hb (prodL n a b) n 0 T (by omega) g1 (fun m hm h => (hT m hm).2 h) (fun m um => ⟨fun t => absurd um ((hT m um.1).1 t), fun ⟨j, hj, _⟩ => by omega⟩)
  rw [← lops_fst ha.mat hb.mat] at g4
  have g5 := g3 _ g4
  refine Ev.congr (fun k => ?_) g5
  have e : wrap64 ((a.length : Int) / 2) = (n : Int) := by rw [pw64 (by omega) (by omega)]; omega
  have e4 : wrap64 (4 * (n : Int)) = ((4 * n : Nat) : Int) := by rw [pw64 (by omega) (by omega)]; omega
  have e2 : wrap64 (2 * (n : Int)) = ((2 * n : Nat) : Int) := by rw [pw64 (by omega) (by omega)]; omega
  unfold pomaderef07_product.f
  rw [e, e4, e2, if_pos (by omega), if_pos (by omega), if_pos (by omega), if_pos (by omega), Int.toNat_natCast, Int.toNat_natCast]
  rfl
end Go.Proofs.Ytjfkompfkgjdaaa.L
