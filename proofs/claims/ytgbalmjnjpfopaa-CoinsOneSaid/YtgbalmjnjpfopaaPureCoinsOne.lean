/- Coin systems: CoinsOne (Magazine, Nemhauser and Trotter). -/
import Derived.Test.YtgbalmjnjpfopaaLExt
import Derived.Test.YtgbalmjnjpfopaaPCf10
namespace Go.Proofs.Ytgbalmjnjpfopaa.L
open Go.RowKit Go.Proofs.Ytgbalmjnjpfopaa.PC Go.Proofs.YtgbalmjnjpfopaaW.PrintWords Go.Proofs.YtgbalmjnjpfopaaW.PrintLast Go.Proofs.Ytgbalmjnjpfopaa.M
theorem one_true (l : List Int) (a : Int) : Ev (fun k => pomadelaw05_CoinsOne.j0 k l a true) true :=
  Ev.step (f := fun k => (pomadelaw05_alive.f k).bind fun t => some t) (fun k => by simp only [pomadelaw05_CoinsOne.j0]; rw [if_pos trivial]) (Ev.bind alive_ev (Ev.now true))
theorem one_loop (m : Int) (v : List Int) (b : Bool) (hl : v.length ≤ 1000000) (hv : ∀ x ∈ v, 0 ≤ x) (hb : v.sum ≤ 4611686018427387904) (hbm : b = decide (v.sum < m)) (d : Nat) : ∀ (q : Nat) (s : Int), q + d = v.length → s + (v.drop q).sum = v.sum → 0 ≤ s → Ev (fun k => pomadelaw05_CoinsOne.l0 k m v b s (q : Int)) true := by
  induction d with
  | zero =>
    intro q s hq hs h0
    refine Ev.step (f := fun k => (pomadelaw05_alive.f k).bind fun t => some t) (fun k => ?_) (Ev.bind alive_ev (Ev.now true))
    simp only [pomadelaw05_CoinsOne.l0]
    rw [List.drop_of_length_le (by omega)] at hs
    have e : s = v.sum := by simpa using hs
    rw [if_neg (by omega), e, hbm]
    simp
  | succ d ih =>
    intro q s hq hs h0
    have hd := sum_drop v q (by omega)
    have hn : 0 ≤ (v.drop (q + 1)).sum := sum_nonneg _ fun x hx => hv x (List.mem_of_mem_drop hx)
    have hr : 0 ≤ rd v (q : Int) := hv _ (by simp [rd, List.getD_eq_getElem?_getD, show q < v.length from by omega])
    refine Ev.step (fun k => ?_) (ih (q + 1) (s + rd v (q : Int)) (by omega) (by omega) (by omega))
    simp only [pomadelaw05_CoinsOne.l0]
    rw [if_pos (by omega), if_pos (by omega), w64 (x := s + rd v (q : Int)) (by omega) (by omega), w64 (x := (q : Int) + 1) (by omega) (by omega)]
    rfl
theorem one_j1 (m : Int) (v : List Int) (b : Bool) (hl : v.length ≤ 1000000) (hv : ∀ x ∈ v, 0 ≤ x) (hb : v.sum ≤ 4611686018427387904) (hbm : b = decide (v.sum < m)) : Ev (fun k => pomadelaw05_CoinsOne.j1 k m v b false) true :=
  Ev.step (f := fun k => pomadelaw05_CoinsOne.l0 k m v b 0 0) (fun k => by simp only [pomadelaw05_CoinsOne.j1]; rw [if_neg (by simp)]) (one_loop m v b hl hv hb hbm v.length 0 0 (by omega) (by simp) (by omega))
theorem DD_app (l : List Int) (v : Int) : DD (l ++ [v]) = v.toNat :: DD l := by simp [DD, nats]
/-- the law itself, in whole numbers -/
theorem one_plain (l : List Int) (hs : Sys l) (h15 : l.length < 15) (v m : Int) (hv1 : rd l ((l.length : Int) - 1) < v) (hv2 : v ≤ 5000) (hr : RV l = 0)
    (hm0 : (m - 1) * rd l ((l.length : Int) - 1) < v) (hm1 : v ≤ m * rd l ((l.length : Int) - 1)) (hm : 1 ≤ m) :
    (RV (l ++ [v]) == 0) = decide ((g (DD l) (m * rd l ((l.length : Int) - 1) - v).toNat : Int) < m) := by
  have hs' := sys_app hs v h15 hv1 hv2
  have hlen := hs.1
  have hq := sys_rd hs (l.length - 1) (by omega)
  rw [show ((l.length - 1 : Nat) : Int) = (l.length : Int) - 1 from by omega] at hq
  obtain ⟨c, hc⟩ : ∃ c : Nat, rd l ((l.length : Int) - 1) = (c : Int) := ⟨_, (Int.toNat_of_nonneg (by omega)).symm⟩
  rw [hc] at hv1 hm0 hm1 hq ⊢
  obtain ⟨u, rfl⟩ : ∃ u : Nat, v = (u : Int) := ⟨v.toNat, (Int.toNat_of_nonneg (by omega)).symm⟩
  obtain ⟨n, rfl⟩ : ∃ n : Nat, m = (n : Int) := ⟨m.toNat, (Int.toNat_of_nonneg (by omega)).symm⟩
  have hD := okD hs
  have hD0 : at_ (DD l) 0 = c := by rw [DD_at l 0 hlen, show ((l.length - 1 - 0 : Nat) : Int) = (l.length : Int) - 1 from by omega, hc]; simp
  have hlD := DD_len l
  obtain ⟨r, hDr⟩ : ∃ r, DD l = c :: r := by
    cases hd : DD l with
    | nil => rw [hd] at hlD; simp at hlD; omega
    | cons x r => rw [hd] at hD0; exact ⟨r, by rw [show c = x from by simpa [at_] using hD0.symm]⟩
  have hDD := DD_app l (u : Int)
  rw [hDr] at hDD hD
  have hf := isFew hs
  rw [hDr] at hf
  have hf' := isFew hs'
  rw [hDD, Int.toNat_natCast] at hf'
  have hg := (res_nonneg hs (RV_res hs)).2.1 hr
  rw [hDr] at hg
  have e0 : (n - 1) * c < u := by
    have : ((n : Int) - 1) * (c : Int) = (((n - 1) * c : Nat) : Int) := by rw [Int.natCast_mul]; congr 1; omega
    omega
  have e1 : u ≤ n * c := by
    have : (n : Int) * (c : Int) = ((n * c : Nat) : Int) := by rw [Int.natCast_mul]
    omega
  have key := one_point hD hf hf' (by omega) hg n e0 e1
  have hz := (res_nonneg hs' (RV_res hs')).2
  rw [hDD, Int.toNat_natCast] at hz
  have hn : ((n : Int) * (c : Int) - (u : Int)).toNat = n * c - u := by
    have : (n : Int) * (c : Int) = ((n * c : Nat) : Int) := by rw [Int.natCast_mul]
    omega
  rw [hn, hDr]
  by_cases h : g (c :: r) (n * c - u) < n
  · rw [decide_eq_true (by omega), beq_iff_eq]
    exact hz.2 (key.2 h)
  · rw [decide_eq_false (by omega), beq_eq_false_iff_ne]
    exact fun h' => h (key.1 (hz.1 h'))
theorem one_false (l : List Int) (hs : Sys l) (h15 : l.length < 15) (h5 : rd l ((l.length : Int) - 1) < 5000) (a : Int) (ha0 : 0 ≤ a) (ha1 : a ≤ 65535) : Ev (fun k => pomadelaw05_CoinsOne.j0 k l a false) true := by
  have hlen := hs.1
  have hq := sys_rd hs (l.length - 1) (by omega)
  rw [show ((l.length - 1 : Nat) : Int) = (l.length : Int) - 1 from by omega] at hq
  obtain ⟨c, hc⟩ : ∃ c, rd l ((l.length : Int) - 1) = c := ⟨_, rfl⟩
  have hc0 := hc
  rw [hc] at hq h5
  obtain ⟨t, ht⟩ : ∃ t, Int.tmod a (5000 - c) = t := ⟨_, rfl⟩
  have ht' := ht
  rw [Int.tmod_eq_emod_of_nonneg ha0] at ht'
  have t0 : 0 ≤ t := by rw [← ht']; exact Int.emod_nonneg _ (by omega)
  have t1 : t < 5000 - c := by rw [← ht']; exact Int.emod_lt_of_pos _ (by omega)
  obtain ⟨v, hv⟩ : ∃ v, c + 1 + t = v := ⟨_, rfl⟩
  obtain ⟨m, hm⟩ : ∃ m, Int.tdiv (v + c - 1) c = m := ⟨_, rfl⟩
  have hm' := hm
  rw [Int.tdiv_eq_ediv_of_nonneg (by omega)] at hm'
  have m1 : m * c ≤ v + c - 1 := by rw [← hm']; exact Int.ediv_mul_le _ (by omega)
  have m2 : v + c - 1 < (m + 1) * c := by rw [← hm']; exact Int.lt_ediv_add_one_mul_self _ (by omega)
  rw [Int.add_mul, Int.one_mul] at m2
  have m3 : 1 ≤ m := by rw [← hm']; exact Int.le_ediv_of_mul_le (by omega) (by omega)
  have m4 : m ≤ m * c := by have := Int.mul_le_mul_of_nonneg_left (show 1 ≤ c by omega) (show 0 ≤ m by omega); omega
  have w0 : wrap64 ((l.length : Int) - 1) = (l.length : Int) - 1 := w64 (by omega) (by omega)
  have w1 : wrap64 (5000 - c) = 5000 - c := w64 (by omega) (by omega)
  have w2 : wrap64 a = a := w64 (by omega) (by omega)
  have w3 : wrap64 (c + 1) = c + 1 := w64 (by omega) (by omega)
  have w4 : wrap64 v = v := w64 (by omega) (by omega)
  have w5 : wrap64 (v + c) = v + c := w64 (by omega) (by omega)
  have w6 : wrap64 (v + c - 1) = v + c - 1 := w64 (by omega) (by omega)
  have w7 : wrap64 m = m := w64 (by omega) (by omega)
  have w8 : wrap64 (m * c) = m * c := w64 (by omega) (by omega)
  have w9 : wrap64 (m * c - v) = m * c - v := w64 (by omega) (by omega)
  have z1 : ¬ (5000 - c = 0) := by omega
  have z2 : ¬ (c = 0) := by omega
  have i0 : 0 ≤ (l.length : Int) - 1 := by omega
  have i1 : (l.length : Int) - 1 < (l.length : Int) := by omega
  refine Ev.step (f := fun k => (coins_Fails.f k l).bind fun bt => (if bt.2 = 10 then ((coins_Greedy.f k l (m * c - v)).bind fun bt421 => ((coins_Extend.f k l v).bind fun bt425 => (if bt421.2 = 0 then (pomadelaw05_CoinsOne.j1 k m bt421.1 bt425.1 (bt425.2 != 0)) else (pomadelaw05_CoinsOne.j1 k m bt421.1 bt425.1 true)))) else (if bt.2 = 0 then ((pomadelaw05_alive.f k).bind fun t420 => (some t420)) else (some false)))) (fun k => ?_) ?_
  · simp only [pomadelaw05_CoinsOne.j0]
    rw [if_neg (by simp)]
    simp only [w0, hc, w1, w2, ht, w3, hv, w4, w5, w6, hm, w7, w8, w9, if_neg z1, if_neg z2, if_pos i0, if_pos i1]
  refine Ev.bind (Fails_ev l hs _ (RV_res hs)) ?_
  by_cases hr : RV l > 0
  · rw [if_pos hr]
    exact Ev.congr (fun k => by rw [if_neg (show ¬ ((0 : Int) = 10) by decide), if_pos rfl]) (Ev.bind alive_ev (Ev.now true))
  rw [if_neg hr]
  have hr0 : RV l = 0 := by have := RV_bound hs; omega
  refine Ev.congr (fun k => if_pos rfl) ?_
  have ee : extV l v = (RV (l ++ [v]) == 0, 0) := by unfold extV; rw [if_pos hs, if_neg (by omega), if_neg (by omega)]
  have e1 : greedyV l (m * c - v) = ((coins_greedy.gl l (m * c - v)).1, 0) := by unfold greedyV; rw [if_pos (err_ok' hs (by omega) (by omega))]
  refine Ev.bind (greedyV_ev l _) (Ev.bind (ext_ev l v) ?_)
  rw [e1, ee]
  refine Ev.congr (f := fun k => pomadelaw05_CoinsOne.j1 k m (coins_greedy.gl l (m * c - v)).1 (RV (l ++ [v]) == 0) false) (fun k => by rw [if_pos rfl]; rfl) ?_
  have hsum := gl_sum l hs (m * c - v) (by omega)
  have hgl := g_le (DD l) (okD hs) (m * c - v).toNat
  have hp := one_plain l hs h15 v m (by omega) (by omega) hr0 (by rw [hc0, Int.sub_mul, Int.one_mul]; omega) (by rw [hc0]; omega) m3
  rw [hc0] at hp
  refine one_j1 _ _ _ (by rw [coins_greedy.gl_len]; omega) (fun x hx => (gl_nonneg l (fun v hv => (hs.range v hv).1) _ (by omega) x hx).1) (by rw [hsum]; omega) ?_
  rw [hsum, hp]
theorem CoinsOne_pure : pomadelaw05_CoinsOne.Pure := by
  intro l a _ _ _ ha
  have ha' : 0 ≤ a ∧ a ≤ 65535 := by
    have e0 : IntKind.u16.min = 0 := by decide +kernel
    have e1 : IntKind.u16.max = 65535 := by decide +kernel
    simp [Lit.wf, e0, e1] at ha
    exact ha
  refine Ev.rounds ?_
  by_cases c : (l.length : Int) ≥ 15
  · exact Ev.congr (fun k => by unfold pomadelaw05_CoinsOne.f; rw [if_pos c]) (one_true l a)
  refine Ev.congr (fun k => by unfold pomadelaw05_CoinsOne.f; rw [if_neg c]) ?_
  by_cases hs : Sys l
  · have hlen := hs.1
    refine Ev.bind ((issys_ev l).1 hs) ?_
    have w0 : wrap64 ((l.length : Int) - 1) = (l.length : Int) - 1 := w64 (by omega) (by omega)
    simp only [if_true, w0]
    refine Ev.congr (f := fun k => pomadelaw05_CoinsOne.j0 k l a (decide (rd l ((l.length : Int) - 1) ≥ 5000))) (fun k => by rw [if_pos (by omega), if_pos (by omega)]) ?_
    by_cases h5 : rd l ((l.length : Int) - 1) ≥ 5000
    · rw [decide_eq_true h5]; exact one_true l a
    · rw [decide_eq_false h5]; exact one_false l hs (by omega) (by omega) a ha'.1 ha'.2
  · refine Ev.bind ((issys_ev l).2 hs) ?_
    exact one_true l a
end Go.Proofs.Ytgbalmjnjpfopaa.L
namespace Go.Proofs.Ytgbalmjnjpfopaa.Pure
theorem CoinsOne : Go.Proofs.Ytgbalmjnjpfopaa.PC.pomadelaw05_CoinsOne.Pure := Go.Proofs.Ytgbalmjnjpfopaa.L.CoinsOne_pure
end Go.Proofs.Ytgbalmjnjpfopaa.Pure
