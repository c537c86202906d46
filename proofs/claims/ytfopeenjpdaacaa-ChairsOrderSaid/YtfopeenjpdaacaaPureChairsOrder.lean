/- Chairs: ChairsOrder. -/
import Derived.Test.YtfopeenjpdaacaaLPark
import Derived.Test.YtfopeenjpdaacaaPCf11
namespace Go.Proofs.Ytfopeenjpdaacaa.L
open Go.RowKit Go.Proofs.Ytfopeenjpdaacaa.PC Go.Proofs.YtfopeenjpdaacaaW.PrintWords Go.Proofs.YtfopeenjpdaacaaW.PrintLast Go.Proofs.Ytfopeenjpdaacaa.MPark
theorem u8_rng {a : Int} (h : (Lit.int .u8 a).wf = true) : 0 ≤ a ∧ a ≤ 255 := by
  simp [Lit.wf, IntKind.bits, IntKind.signed, IntKind.min, IntKind.max] at h
  omega
theorem perm_swap (l : List Int) (i j : Nat) (hi : i < l.length) (hj : j < l.length) : ((l.set i (l.getD j 0)).set j (l.getD i 0)).Perm l := by
  have h := Array.swap_perm (xs := l.toArray) (i := i) (j := j) (by simpa using hi) (by simpa using hj)
  rw [Array.perm_iff_toList_perm] at h
  simpa [List.getD_eq_getElem?_getD, hi, hj] using h
theorem mixed_loop (b : List Int) (hb : ∀ x ∈ b, 0 ≤ x ∧ x ≤ 255) (w : List Int) (hl : w.length ≤ 1000000) (hbl : b.length ≤ 1000000) (d : Nat) : ∀ (q : Nat) (out : List Int), q + d = w.length → out.Perm w → ∃ x, Ev (fun k => pomadelaw03_mixed.l0 k b out (q : Int)) x ∧ x.Perm w := by
  induction d with
  | zero =>
    intro q out hq hp
    have := hp.length_eq
    refine ⟨out, Ev.step (f := fun _ => some out) (fun k => ?_) (Ev.now _), hp⟩
    simp only [pomadelaw03_mixed.l0]
    rw [if_neg (by omega)]
  | succ d ih =>
    intro q out hq hp
    have hlen := hp.length_eq
    by_cases c : q < b.length
    · have hbb := hb _ (rd_mem b q c)
      obtain ⟨v, hv⟩ : ∃ v, rd b (q : Int) = v := ⟨_, rfl⟩
      rw [hv] at hbb
      have e2 : wrap64 v = v := w64 (by omega) (by omega)
      obtain ⟨g, hg⟩ : ∃ g : Int, (out.length : Int) - (q : Int) = g := ⟨_, rfl⟩
      have g0 : 0 < g := by omega
      have g1 : g ≤ 1000000 := by omega
      have p1 : (q : Int) < (out.length : Int) := by omega
      have p2 : (q : Int) < (b.length : Int) := by omega
      have p3 : (0 : Int) ≤ (q : Int) := by omega
      have e1 : wrap64 g = g := w64 (by omega) (by omega)
      have e3 : Int.tmod v g = v % g := Int.tmod_eq_emod_of_nonneg hbb.1
      have hm0 : 0 ≤ v % g := Int.emod_nonneg _ (by omega)
      have hm1 : v % g < g := Int.emod_lt_of_pos _ g0
      obtain ⟨r, hr⟩ : ∃ r : Nat, v % g = (r : Int) := ⟨(v % g).toNat, (Int.toNat_of_nonneg hm0).symm⟩
      rw [hr] at e3 hm1
      have p4 : q + r < out.length := by clear e1 e2 e3 hr hm0 hbb; omega
      have p5 : (0 : Int) ≤ ((q + r : Nat) : Int) := Int.natCast_nonneg _
      have p6 : ((q + r : Nat) : Int) < (out.length : Int) := Int.ofNat_lt.2 p4
      have p7 : q < out.length := by clear e1 e2 e3 hr hm0 hbb; omega
      have p8 : q + r ≤ 1000000 := by clear e1 e2 e3 hr hm0 hbb; omega
      have p9 : q + 1 + d = w.length := by clear e1 e2 e3 hr hm0 hbb; omega
      have e4 : wrap64 ((q : Int) + (r : Int)) = ((q + r : Nat) : Int) := by
        clear e1 e2 e3 hr hm0 hbb
        rw [w64 (by omega) (by omega)]; omega
      have e5 : wrap64 ((q : Int) + 1) = ((q + 1 : Nat) : Int) := by
        clear e1 e2 e3 hr hm0 hbb e4
        rw [w64 (by omega) (by omega)]; omega
      have p0 : ¬ g = 0 := by clear e1 e2 e3 hr hm0 hbb e4 e5; omega
      have hsw := perm_swap out q (q + r) p7 p4
      obtain ⟨x, h1, h2⟩ := ih (q + 1) ((out.set q (out.getD (q + r) 0)).set (q + r) (out.getD q 0)) p9 (hsw.trans hp)
      refine ⟨x, Ev.step (fun k => ?_) h1, h2⟩
      simp only [pomadelaw03_mixed.l0]
      rw [if_pos p1, if_pos p2, if_pos p3, hv, hg, e1, if_neg p0, e2, e3, e4, if_pos p5, if_pos p6, e5]
      rfl
    · refine ⟨out, Ev.step (f := fun _ => some out) (fun k => ?_) (Ev.now _), hp⟩
      simp only [pomadelaw03_mixed.l0]
      rw [if_pos (by omega), if_neg (by omega)]
theorem mixed_ev (b : List Int) (hb : ∀ x ∈ b, 0 ≤ x ∧ x ≤ 255) (w : List Int) (hl : w.length ≤ 1000000) (hbl : b.length ≤ 1000000) : ∃ x, Ev (fun k => pomadelaw03_mixed.f k w b) x ∧ x.Perm w := by
  obtain ⟨x, h1, h2⟩ := mixed_loop b hb w hl hbl w.length 0 w (by omega) (List.Perm.refl _)
  refine ⟨x, Ev.congr (fun k => ?_) h1, h2⟩
  unfold pomadelaw03_mixed.f
  rw [Option.bind_some, if_pos (by simp; omega), List.nil_append]
  rfl
theorem row_perm (m : Int) {w x : List Int} (h : x.Perm w) : rowV m x = rowV m w := by
  unfold rowV
  rw [h.length_eq]
  have e : x.all (fun w => decide (0 ≤ w ∧ w < m)) = w.all (fun w => decide (0 ≤ w ∧ w < m)) := by
    rw [Bool.eq_iff_iff, List.all_eq_true, List.all_eq_true]
    exact ⟨fun g y hy => g y (h.mem_iff.2 hy), fun g y hy => g y (h.mem_iff.1 hy)⟩
  rw [e]
/-- both orders: the same chairs -/
structure Both (m : Int) (w x : List Int) : Prop where
  good : (sitV m x).2 = (sitV m w).2
  seats : (sitV m w).2 = true → ∃ cs ds : List Nat, ∃ S : Nat → Bool, (sitV m w).1 = cs.map (fun c : Nat => (c : Int)) ∧ (sitV m x).1 = ds.map (fun c : Nat => (c : Int)) ∧ Park (w.map Int.toNat) no S cs ∧ Park (x.map Int.toNat) no S ds ∧ (∀ c ∈ cs, (c : Int) < m) ∧ (∀ c ∈ ds, (c : Int) < m)
theorem both_of {m : Int} {w x : List Int} (h : Row m w) (hx : Row m x) (hp : x.Perm w) : Both m w x := by
  obtain ⟨S, cs, hP, e⟩ := sitV_park m w h
  obtain ⟨S2, ds, hP2, e2⟩ := sitV_park m x hx
  obtain ⟨ds', hP3⟩ := Park.perm (hp.symm.map Int.toNat) hP
  obtain ⟨rfl, rfl⟩ := hP2.uniq hP3
  have hall : cs.all (fun c => decide ((c : Int) < m)) = ds.all (fun c => decide ((c : Int) < m)) := by
    rw [Bool.eq_iff_iff, List.all_eq_true, List.all_eq_true]
    exact ⟨fun g c hc => g c ((hP.mem c rfl).2 ((hP3.mem c rfl).1 hc)), fun g c hc => g c ((hP3.mem c rfl).2 ((hP.mem c rfl).1 hc))⟩
  rw [hall] at e
  by_cases c : ds.all (fun c => decide ((c : Int) < m)) = true
  · rw [if_pos c] at e e2
    refine ⟨by rw [e, e2], fun _ => ⟨cs, ds, S2, by rw [e], by rw [e2], hP, hP3, ?_, ?_⟩⟩
    · rw [← hall] at c
      exact fun y hy => by simpa using List.all_eq_true.1 c y hy
    · exact fun y hy => by simpa using List.all_eq_true.1 c y hy
  · rw [if_neg c] at e e2
    exact ⟨by rw [e, e2], fun g => by rw [e] at g; cases g⟩
/-! ### how far all move -/
theorem perm_sum {a b : List Int} (h : a.Perm b) : a.sum = b.sum := by
  induction h with
  | nil => rfl
  | cons x _ ih => rw [List.sum_cons, List.sum_cons, ih]
  | swap x y l => rw [List.sum_cons, List.sum_cons, List.sum_cons, List.sum_cons]; omega
  | trans _ _ i1 i2 => exact i1.trans i2
theorem sum_take (l : List Int) (q : Nat) (h : q < l.length) : (l.take (q + 1)).sum = (l.take q).sum + rd l (q : Int) := by
  rw [List.take_succ_eq_append_getElem h, List.sum_append]
  simp [rd, List.getD_eq_getElem?_getD, h]
theorem sum_le {l : List Int} {m : Int} (h : ∀ x ∈ l, 0 ≤ x ∧ x < m) : 0 ≤ l.sum ∧ l.sum ≤ m * l.length := by
  induction l with
  | nil => simp
  | cons x xs ih =>
    obtain ⟨h1, h2⟩ := ih (fun y hy => h y (List.mem_cons_of_mem _ hy))
    obtain ⟨h3, h4⟩ := h x List.mem_cons_self
    rw [List.sum_cons, List.length_cons, show ((xs.length + 1 : Nat) : Int) = (xs.length : Int) + 1 by omega, Int.mul_add, Int.mul_one]
    omega
theorem far_loop (m : Int) (hm : m ≤ 30) (l ch : List Int) (hc : ch.length = l.length) (hl : l.length ≤ 30) (h1 : ∀ x ∈ l, 0 ≤ x ∧ x < m) (h2 : ∀ x ∈ ch, 0 ≤ x ∧ x < m) (d : Nat) : ∀ (q : Nat) (lucky : Int), q + d = l.length →
    ∃ y, Ev (fun k => chairs_Moved.l0 k l ((ch.take q).sum - (l.take q).sum) lucky ch (ch.length : Int) (q : Int)) (ch.sum - l.sum, y, 0) := by
  have hb : ∀ (t : List Int) (q : Nat), (∀ x ∈ t, 0 ≤ x ∧ x < m) → t.length ≤ 30 → 0 ≤ (t.take q).sum ∧ (t.take q).sum ≤ 900 := fun t q ht htl => by
    obtain ⟨a, b⟩ := sum_le (l := t.take q) (m := m) (fun x hx => ht x (List.mem_of_mem_take hx))
    have : (t.take q).length ≤ 30 := by rw [List.length_take]; omega
    refine ⟨a, Int.le_trans b ?_⟩
    by_cases hm0 : 0 ≤ m
    · exact Int.le_trans (Int.mul_le_mul hm (by omega : ((t.take q).length : Int) ≤ 30) (by omega) (by omega)) (by omega)
    · have : m * ((t.take q).length : Int) ≤ 0 := Int.mul_nonpos_of_nonpos_of_nonneg (by omega) (by omega)
      omega
  induction d with
  | zero =>
    intro q lucky hq
    rw [List.take_of_length_le (by omega), List.take_of_length_le (by omega)]
    refine ⟨lucky, Ev.step (f := fun _ => some (ch.sum - l.sum, lucky, 0)) (fun k => ?_) (Ev.now _)⟩
    simp only [chairs_Moved.l0]; rw [if_neg (by omega)]
  | succ d ih =>
    intro q lucky hq
    have b1 := hb ch q h2 (by omega)
    have b2 := hb l q h1 hl
    have b3 := h2 _ (rd_mem ch q (by omega))
    have b4 := h1 _ (rd_mem l q (by omega))
    have e : wrap64 ((ch.take q).sum - (l.take q).sum + wrap64 (rd ch (q : Int) - rd l (q : Int))) = (ch.take (q + 1)).sum - (l.take (q + 1)).sum := by
      rw [sum_take ch q (by omega), sum_take l q (by omega), w64 (x := rd ch (q : Int) - rd l (q : Int)) (by omega) (by omega), w64 (by omega) (by omega)]
      omega
    by_cases c : rd ch (q : Int) = rd l (q : Int)
    · obtain ⟨y, hy⟩ := ih (q + 1) (wrap64 (lucky + 1)) (by omega)
      refine ⟨y, Ev.step (fun k => ?_) hy⟩
      simp only [chairs_Moved.l0]
      rw [if_pos (by omega), if_pos (by omega), if_pos (by omega), if_pos (by omega), if_pos c, w64 (x := (q : Int) + 1) (by omega) (by omega), e]
      rfl
    · obtain ⟨y, hy⟩ := ih (q + 1) lucky (by omega)
      refine ⟨y, Ev.step (fun k => ?_) hy⟩
      simp only [chairs_Moved.l0]
      rw [if_pos (by omega), if_pos (by omega), if_pos (by omega), if_pos (by omega), if_neg c, w64 (x := (q : Int) + 1) (by omega) (by omega), e]
      rfl
theorem far_good (m : Int) (l ch : List Int) (h : Row m l) (hg : (sitV m l).2 = true) (hch : (sitV m l).1 = ch) (hc : ch.length = l.length) (h2 : ∀ x ∈ ch, 0 ≤ x ∧ x < m) : ∃ y, Ev (fun k => chairs_Moved.f k m l) (ch.sum - l.sum, y, 0) := by
  have hm := h.m30
  have hl := h.len
  obtain ⟨y, hy⟩ := far_loop m hm l ch hc (by omega) h.all h2 l.length 0 0 (by omega)
  refine ⟨y, Ev.bind (Sit_ev m l) ?_⟩
  have e : SitV m l = (ch, 0) := by unfold SitV; rw [if_pos ((row_iff _ _).2 h), if_pos hg, hch]
  rw [e]
  exact Ev.congr (fun k => if_pos rfl) (by simpa using hy)
theorem far_bad (m : Int) (l : List Int) (h : (SitV m l).2 ≠ 0) : Ev (fun k => chairs_Moved.f k m l) (0, 0, (SitV m l).2) :=
  Ev.bind (Sit_ev m l) (Ev.congr (fun k => if_neg h) (Ev.now _))
/-! ### the chairs that are taken -/
def tk (cs ds : List Nat) (q j : Nat) : Int := ((cs.take q).count j : Int) + 100 * ((ds.take q).count j : Int)
theorem count_take (cs : List Nat) (q j : Nat) (h : q < cs.length) : (cs.take (q + 1)).count j = (cs.take q).count j + if cs.getD q 0 = j then 1 else 0 := by
  rw [List.take_succ_eq_append_getElem h, List.count_append, List.count_singleton]
  simp [List.getD_eq_getElem?_getD, h]
theorem take_count_le (cs : List Nat) (q j : Nat) : (cs.take q).count j ≤ cs.length := Nat.le_trans (List.count_le_length) (List.length_take_le' _ _)
structure Seats (m : Int) (n : Nat) (w x : List Int) (cs ds : List Nat) : Prop where
  m1 : 1 ≤ m
  m30 : m ≤ 30
  n30 : n ≤ 30
  lw : w.length = n
  lx : x.length = n
  lc : cs.length = n
  ld : ds.length = n
  cm : ∀ i, i < n → rd w (i : Int) ≤ ((cs.getD i 0 : Nat) : Int) ∧ ((cs.getD i 0 : Nat) : Int) < m
  dm : ∀ i, i < n → rd x (i : Int) ≤ ((ds.getD i 0 : Nat) : Int) ∧ ((ds.getD i 0 : Nat) : Int) < m
  eq : ∀ j, cs.count j = ds.count j ∧ cs.count j ≤ 1
theorem rd_cast (cs : List Nat) (q : Nat) (h : q < cs.length) : rd (cs.map (fun c : Nat => (c : Int))) (q : Int) = ((cs.getD q 0 : Nat) : Int) := by simp [rd, List.getD_eq_getElem?_getD, h]
theorem getD_set (T : List Int) (i j : Nat) (v : Int) (hi : i < T.length) : (T.set i v).getD j 0 = if i = j then v else T.getD j 0 := by
  by_cases e : i = j
  · subst e; rw [if_pos rfl]; simp [List.getD_eq_getElem?_getD, hi]
  · rw [if_neg e, List.getD_eq_getElem?_getD, List.getElem?_set_ne e, ← List.getD_eq_getElem?_getD]
theorem order_end (m : Int) (h1 : 1 ≤ m) (hm : m ≤ 30) (T : List Int) (hT : (T.length : Int) = m) (hv : ∀ j : Nat, (j : Int) < m → rd T (j : Int) = 0 ∨ rd T (j : Int) = 101) (d : Nat) : ∀ q : Nat, (q : Int) + d = m → Ev (fun k => pomadelaw03_ChairsOrder.l1 k m T (q : Int)) true := by
  induction d with
  | zero =>
    intro q hq
    refine Ev.step (f := fun _ => (pomadelaw03_alive.f).bind fun t => some t) (fun k => ?_) (Ev.now true)
    simp only [pomadelaw03_ChairsOrder.l1]
    rw [if_neg (by omega)]
  | succ d ih =>
    intro q hq
    refine Ev.step (fun k => ?_) (ih (q + 1) (by omega))
    simp only [pomadelaw03_ChairsOrder.l1]
    rw [if_pos (by omega), if_pos (by omega), if_pos (by omega), w64 (by omega) (by omega)]
    rcases hv q (by omega) with e | e
    · rw [if_pos e]; rfl
    · rw [if_neg (by omega), if_pos e]; rfl
theorem order_loop (m : Int) (n : Nat) (w x : List Int) (cs ds : List Nat) (h : Seats m n w x cs ds) (d : Nat) : ∀ (q : Nat) (T : List Int), q + d = n → (T.length : Int) = m → (∀ j : Nat, (j : Int) < m → T.getD j 0 = tk cs ds q j) →
    Ev (fun k => pomadelaw03_ChairsOrder.l0 k m w x (cs.map (fun c : Nat => (c : Int))) (ds.map (fun c : Nat => (c : Int))) T (q : Int)) true := by
  have hm1 := h.m1
  have hm30 := h.m30
  have hn30 := h.n30
  have hlw := h.lw
  have hlx := h.lx
  have hlc := h.lc
  have hld := h.ld
  induction d with
  | zero =>
    intro q T hq hT hv
    refine Ev.step (fun k => ?_) (order_end m hm1 hm30 T hT (fun j hj => ?_) m.toNat 0 (by omega))
    · simp only [pomadelaw03_ChairsOrder.l0]
      rw [if_neg (by omega)]
      rfl
    · have e := hv j hj
      have e2 : rd T (j : Int) = T.getD j 0 := rfl
      rw [e2, e]
      unfold tk
      rw [List.take_of_length_le (by omega), List.take_of_length_le (by omega)]
      obtain ⟨g1, g2⟩ := h.eq j
      omega
  | succ d ih =>
    intro q T hq hT hv
    obtain ⟨a1, a2⟩ := h.cm q (by omega)
    obtain ⟨b1, b2⟩ := h.dm q (by omega)
    obtain ⟨c, hc⟩ : ∃ c, cs.getD q 0 = c := ⟨_, rfl⟩
    obtain ⟨e, he⟩ : ∃ e, ds.getD q 0 = e := ⟨_, rfl⟩
    have r1 := rd_cast cs q (by omega)
    have r2 := rd_cast ds q (by omega)
    rw [hc] at a1 a2 r1
    rw [he] at b1 b2 r2
    have v1 : rd T (c : Int) = tk cs ds q c := hv c (by omega)
    have k1 := take_count_le cs q c
    have k2 := take_count_le ds q c
    have k3 := take_count_le cs q e
    have k4 := take_count_le ds q e
    have w1 : wrap64 (rd T (c : Int) + 1) = tk cs ds q c + 1 := by rw [v1]; unfold tk; rw [w64 (by omega) (by omega)]
    have v2 : rd (T.set c (tk cs ds q c + 1)) (e : Int) = if c = e then tk cs ds q c + 1 else tk cs ds q e := by
      have := getD_set T c e (tk cs ds q c + 1) (by omega)
      rw [show rd (T.set c (tk cs ds q c + 1)) (e : Int) = (T.set c (tk cs ds q c + 1)).getD e 0 from rfl, this, hv e (by omega)]
    have w2 : wrap64 (rd (T.set c (tk cs ds q c + 1)) (e : Int) + 100) = (if c = e then tk cs ds q c + 1 else tk cs ds q e) + 100 := by
      rw [v2]; unfold tk; split <;> rw [w64 (by omega) (by omega)]
    refine Ev.step (fun k => ?_) (ih (q + 1) ((T.set c (tk cs ds q c + 1)).set e ((if c = e then tk cs ds q c + 1 else tk cs ds q e) + 100)) (by omega) (by simpa using hT) (fun j hj => ?_))
    · simp only [pomadelaw03_ChairsOrder.l0]
      rw [if_pos (by omega), if_pos (by omega), if_pos (by rw [List.length_map]; omega), r1, if_neg (by omega), if_neg (by omega), if_pos (by rw [List.length_map]; omega), if_pos (by omega), r2, if_neg (by omega), if_neg (by omega), if_pos (by omega), if_pos (by omega), w1, Option.bind_some, if_pos (by omega), if_pos (by omega), Int.toNat_natCast, w2, Int.toNat_natCast, w64 (by omega) (by omega)]
      rfl
    · rw [getD_set _ _ _ _ (by rw [List.length_set]; omega), getD_set _ _ _ _ (by omega), hv j hj]
      unfold tk
      rw [count_take cs q j (by omega), count_take ds q j (by omega), hc, he]
      by_cases g1 : e = j <;> by_cases g2 : c = j
      · subst g1; subst g2; simp; omega
      · subst g1; simp [g2]; omega
      · subst g2; simp [g1, show ¬ e = c from g1]; omega
      · simp [g1, g2]
theorem ChairsOrder_pure : pomadelaw03_ChairsOrder.Pure := by
  intro m w b _ _ _ _ _ _ hb8
  refine Ev.rounds ?_
  have hb : ∀ x ∈ b, 0 ≤ x ∧ x ≤ 255 := fun x hx => u8_rng (hb8 x hx)
  by_cases c1 : (w.length : Int) > 60
  · refine Ev.congr (fun k => by unfold pomadelaw03_ChairsOrder.f; rw [if_pos c1]) (Ev.step (f := fun _ => some true) (fun k => ?_) (Ev.now true))
    simp only [pomadelaw03_ChairsOrder.j0]; rfl
  by_cases c2 : (b.length : Int) > 60
  · refine Ev.congr (fun k => by unfold pomadelaw03_ChairsOrder.f; rw [if_neg c1, decide_eq_true c2]) (Ev.step (f := fun _ => some true) (fun k => ?_) (Ev.now true))
    simp only [pomadelaw03_ChairsOrder.j0]; rfl
  refine Ev.congr (fun k => by unfold pomadelaw03_ChairsOrder.f; rw [if_neg c1, decide_eq_false c2]) ?_
  obtain ⟨x, hx1, hx2⟩ := mixed_ev b hb w (by omega) (by omega)
  have hlx := hx2.length_eq
  have hrv := row_perm m hx2
  refine Ev.step (fun k => by simp only [pomadelaw03_ChairsOrder.j0]; rw [if_neg (by simp)]) (Ev.bind hx1 (Ev.bind (Good_ev m w) (Ev.bind (Good_ev m x) ?_)))
  have key : GoodV m x = GoodV m w := by
    unfold GoodV
    rw [hrv]
    split
    · rename_i h0
      rw [(both_of ((row_iff _ _).1 h0) ((row_iff _ _).1 (hrv.trans h0)) hx2).good]
    · rfl
  rw [key]
  refine Ev.congr (f := fun k => (pomaderef03_Row.f k m w).bind fun t436 => (pomadelaw03_ChairsOrder.j1 k m w x (GoodV m w).1 ((GoodV m w).2 != t436))) (fun k => by rw [if_neg (by simp), if_neg (by simp)]) (Ev.bind (row_ev m w (by omega)) ?_)
  have hgr : (GoodV m w).2 = rowV m w := by unfold GoodV; split <;> simp_all
  rw [hgr, bne_self_eq_false]
  refine Ev.step (fun k => by simp only [pomadelaw03_ChairsOrder.j1]; rw [if_neg (by simp)]) (Ev.bind (Sit_ev m w) (Ev.bind (Sit_ev m x) ?_))
  by_cases hg : (GoodV m w).1 = true
  · have h0 : rowV m w = 0 := by
      unfold GoodV at hg
      split at hg
      · assumption
      · cases hg
    have hR := (row_iff _ _).1 h0
    have hRx := (row_iff _ _).1 (hrv.trans h0)
    have hs : (sitV m w).2 = true := by unfold GoodV at hg; rw [if_pos h0] at hg; exact hg
    have hB := both_of hR hRx hx2
    have hsx : (sitV m x).2 = true := hB.good.trans hs
    obtain ⟨cs, ds, S, e1, e2, hP, hQ, hcm, hdm⟩ := hB.seats hs
    have lc : cs.length = w.length := by rw [hP.length, List.length_map]
    have ld : ds.length = w.length := by rw [hQ.length, List.length_map, hlx]
    have s1 : SitV m w = (cs.map (fun c : Nat => (c : Int)), 0) := by unfold SitV; rw [if_pos h0, if_pos hs, e1]
    have s2 : SitV m x = (ds.map (fun c : Nat => (c : Int)), 0) := by unfold SitV; rw [if_pos (hrv.trans h0), if_pos hsx, e2]
    obtain ⟨y1, f1⟩ := far_good m w _ hR hs e1 (by rw [List.length_map]; exact lc) (fun v hv => by
      obtain ⟨c, hc, rfl⟩ := List.mem_map.1 hv
      exact ⟨by omega, hcm c hc⟩)
    obtain ⟨y2, f2⟩ := far_good m x _ hRx hsx e2 (by rw [List.length_map]; omega) (fun v hv => by
      obtain ⟨c, hc, rfl⟩ := List.mem_map.1 hv
      exact ⟨by omega, hdm c hc⟩)
    have hfar : (cs.map (fun c : Nat => (c : Int))).sum - w.sum = (ds.map (fun c : Nat => (c : Int))).sum - x.sum := by
      have t1 := hP.tot m.toNat (fun c hc => by have := hcm c hc; omega)
      have t2 := hQ.tot m.toNat (fun c hc => by have := hdm c hc; omega)
      have e3 : cs.sum = ds.sum := by omega
      have cast : ∀ l : List Nat, (l.map (fun c : Nat => (c : Int))).sum = (l.sum : Int) := fun l => by
        induction l with
        | nil => rfl
        | cons a l ih => rw [List.map_cons, List.sum_cons, List.sum_cons, ih]; omega
      have e4 : x.sum = w.sum := perm_sum hx2
      rw [cast, cast, e3, e4]
    rw [s1, s2]
    refine Ev.bind f1 (Ev.bind f2 ?_)
    refine Ev.congr (fun k => by rw [if_pos hg, if_pos rfl, if_pos rfl, if_pos rfl, if_pos rfl, if_pos hfar, if_pos (by rw [List.length_map, lc])]) ?_
    have hne : (((ds.map (fun c : Nat => (c : Int))).length : Int) != (w.length : Int)) = false := by rw [List.length_map, ld]; simp
    have hm1 := hR.m1
    have hm30 := hR.m30
    have hlw := hR.len
    refine Ev.step (fun k => by simp only [pomadelaw03_ChairsOrder.j2]; rw [hne, if_neg (by simp), if_pos (by omega), if_pos (by omega)]) ?_
    refine order_loop m w.length w x cs ds ⟨hm1, hm30, by omega, rfl, hlx, lc, ld, fun i hi => ?_, fun i hi => ?_, fun j => ?_⟩ w.length 0 _ (by omega) (by simp; omega) (fun j hj => ?_)
    · have g := hP.ge i (by rw [List.length_map]; exact hi)
      have hw := hR.all _ (rd_mem w i hi)
      have e5 : (w.map Int.toNat).getD i 0 = (rd w (i : Int)).toNat := by simp [rd, List.getD_eq_getElem?_getD, hi]
      have hci : cs.getD i 0 ∈ cs := by simp [List.getD_eq_getElem?_getD, show i < cs.length by omega]
      exact ⟨by omega, hcm _ hci⟩
    · have g := hQ.ge i (by rw [List.length_map]; omega)
      have hw := hRx.all _ (rd_mem x i (by omega))
      have e5 : (x.map Int.toNat).getD i 0 = (rd x (i : Int)).toNat := by simp [rd, List.getD_eq_getElem?_getD, show i < x.length by omega]
      have hci : ds.getD i 0 ∈ ds := by simp [List.getD_eq_getElem?_getD, show i < ds.length by omega]
      exact ⟨by omega, hdm _ hci⟩
    · have n1 := hP.count j
      have n2 := hQ.count j
      rw [show no j = false from rfl, if_neg (by simp), Nat.add_zero] at n1 n2
      exact ⟨n1.trans n2.symm, by rw [n1]; split <;> omega⟩
    · unfold tk
      simp [List.getD_eq_getElem?_getD, List.getElem?_replicate]
      split <;> rfl
  · have hbad : (SitV m w).2 ≠ 0 ∧ (SitV m x).2 ≠ 0 ∧ (SitV m w).1 = [] ∧ (SitV m x).1 = [] := by
      unfold SitV
      rw [hrv]
      by_cases h0 : rowV m w = 0
      · have hs : ¬ (sitV m w).2 = true := by unfold GoodV at hg; rw [if_pos h0] at hg; exact hg
        have hB := both_of ((row_iff _ _).1 h0) ((row_iff _ _).1 (hrv.trans h0)) hx2
        have hsx : ¬ (sitV m x).2 = true := by rw [hB.good]; exact hs
        rw [if_pos h0, if_neg hs, if_pos h0, if_neg hsx]
        simp
      · rw [if_neg h0, if_neg h0]
        exact ⟨h0, h0, rfl, rfl⟩
    obtain ⟨b1, b2, b3, b4⟩ := hbad
    refine Ev.bind (far_bad m w b1) (Ev.bind (far_bad m x b2) ?_)
    refine Ev.congr (fun k => ?_) (Ev.now true)
    rw [if_neg hg, if_neg b1, if_neg b2, if_pos rfl, if_pos rfl, b3, b4]
    show (if wrap64 (wrap64 (wrap64 (0 + 0) + 0) + 0) = 0 then _ else _) = _
    rw [if_pos (by unfold wrap64; omega)]
    rfl
end Go.Proofs.Ytfopeenjpdaacaa.L
namespace Go.Proofs.Ytfopeenjpdaacaa.Pure
theorem ChairsOrder : Go.Proofs.Ytfopeenjpdaacaa.PC.pomadelaw03_ChairsOrder.Pure := Go.Proofs.Ytfopeenjpdaacaa.L.ChairsOrder_pure
end Go.Proofs.Ytfopeenjpdaacaa.Pure
