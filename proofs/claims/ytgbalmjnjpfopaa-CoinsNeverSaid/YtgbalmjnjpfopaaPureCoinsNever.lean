/- Coin systems: CoinsNever. -/
import Derived.Test.YtgbalmjnjpfopaaLExt
import Derived.Test.YtgbalmjnjpfopaaLPref
import Derived.Test.YtgbalmjnjpfopaaLOne
import Derived.Test.YtgbalmjnjpfopaaPCf8
namespace Go.Proofs.Ytgbalmjnjpfopaa.L
open Go.RowKit Go.Proofs.Ytgbalmjnjpfopaa.PC Go.Proofs.YtgbalmjnjpfopaaW.PrintWords Go.Proofs.YtgbalmjnjpfopaaW.PrintLast Go.Proofs.YtgbalmjnjpfopaaW.PrintMore Go.Proofs.Ytgbalmjnjpfopaa.M

/-! ### where greed never fails, the best change is the greedy one -/
theorem cntN_div (f : Nat → Nat) (v : Nat) (hv : 1 ≤ v) (d : Nat) : ∀ b, b ≤ d → (∀ x, v ≤ x → x ≤ b → f (x - v) + 1 = f x) → cntN f v d b = b / v := by
  induction d with
  | zero => intro b hb _; rw [show b = 0 from by omega]; simp [cntN]
  | succ d ih =>
    intro b hb h
    simp only [cntN]
    by_cases c : v ≤ b
    · rw [if_pos ⟨c, h b c (Nat.le_refl _)⟩, ih (b - v) (by omega) (fun x h1 h2 => h x h1 (by omega))]
      obtain ⟨y, rfl⟩ : ∃ y, b = y + v := ⟨b - v, by omega⟩
      rw [Nat.add_sub_cancel, Nat.add_div_right _ (by omega)]
    · rw [if_neg (fun g => c g.1), Nat.div_eq_of_lt (by omega)]
theorem g_app_lt (E D : List Nat) (x : Nat) (h : ∀ e ∈ E, x < e) : g (E ++ D) x = g D x := by
  induction E with
  | nil => rfl
  | cons e E ih =>
    rw [List.cons_append, g_cons_lt _ _ _ (h e List.mem_cons_self)]
    exact ih fun y hy => h y (List.mem_cons_of_mem _ hy)
theorem bl_gl (l : List Int) (hs : Sys l) (hF : ∀ x, F l x = g (DD l) x) (am a : Int) (h0 : 0 ≤ a) (h1 : a ≤ am) : ∀ (l' p : List Int), l = p ++ l' →
    coins_best.bl (tabF l am) l' a = coins_greedy.gl l' a ∧ 0 ≤ (coins_greedy.gl l' a).2 ∧ (coins_greedy.gl l' a).2 ≤ a ∧ ∀ x ∈ l', (coins_greedy.gl l' a).2 < x := by
  intro l'
  induction l' with
  | nil => intro p _; exact ⟨rfl, by simpa [coins_greedy.gl] using h0, by simp [coins_greedy.gl], fun x hx => by simp at hx⟩
  | cons v l' ih =>
    intro p hp
    obtain ⟨e, r0, r1, rl⟩ := ih (p ++ [v]) (by rw [hp]; simp)
    have hvr := hs.range v (by rw [hp]; simp)
    obtain ⟨b, hb⟩ : ∃ b, (coins_greedy.gl l' a).2 = b := ⟨_, rfl⟩
    rw [hb] at r0 r1 rl
    have hcnt : (coins_best.cnt (tabF l am) v b.toNat b : Int) = b / v := by
      rw [cnt_nat l am v hvr.1 b.toNat b r0 (by omega), cntN_div (F l) v.toNat (by omega) b.toNat b.toNat (Nat.le_refl _) ?_]
      · rw [Int.natCast_ediv, Int.toNat_of_nonneg r0, Int.toNat_of_nonneg (by omega)]
      · intro x x1 x2
        have hDD : DD l = (nats l').reverse ++ (v.toNat :: (nats p).reverse) := by rw [hp]; simp [DD, nats]
        have hlt : ∀ e ∈ (nats l').reverse, x < e := fun e he => by
          simp only [nats, List.mem_reverse, List.mem_map] at he
          obtain ⟨y, hy, rfl⟩ := he
          have := rl y hy
          omega
        rw [hF, hF, hDD, g_app_lt _ _ _ hlt, g_app_lt _ _ _ (fun e he => by have := hlt e he; omega), g_cons_ge v.toNat _ x (by omega) x1]
    have hgl : coins_greedy.gl (v :: l') a = (b / v :: (coins_greedy.gl l' a).1, b % v) := by simp only [coins_greedy.gl]; rw [hb]
    refine ⟨?_, ?_, ?_, ?_⟩
    · rw [hgl]
      simp only [coins_best.bl]
      rw [e, hb, hcnt, Int.emod_def, Int.mul_comm v]
    · rw [hgl]; exact Int.emod_nonneg _ (by omega)
    · rw [hgl]
      have h2 : b % v ≤ b := by have := Int.emod_add_mul_ediv b v; have := Int.mul_nonneg (show 0 ≤ v by omega) (Int.ediv_nonneg r0 (show 0 ≤ v by omega)); omega
      show b % v ≤ a
      omega
    · intro x hx
      rw [hgl]
      have h2 : b % v ≤ b := by have := Int.emod_add_mul_ediv b v; have := Int.mul_nonneg (show 0 ≤ v by omega) (Int.ediv_nonneg r0 (show 0 ≤ v by omega)); omega
      show b % v < x
      rcases List.mem_cons.1 hx with rfl | hx
      · exact Int.emod_lt_of_pos _ (by omega)
      · have := rl x hx; omega
theorem best_greedy (l : List Int) (hs : Sys l) (hr : RV l = 0) (a : Int) (h0 : 0 ≤ a) : bestL l a = (coins_greedy.gl l a).1 := by
  have hF := (res_nonneg hs (RV_res hs)).2.1 hr
  rw [← (bl_gl l hs hF a a h0 (Int.le_refl _) l [] rfl).1]
  rfl

/-! ### systems of which no beginning fails -/
structure NV (l : List Int) : Prop where
  sys : Sys l
  all : ∀ i : Nat, i < l.length → RV (l.take (i + 1)) = 0
theorem NV.rv {l : List Int} (h : NV l) : RV l = 0 := by
  have := h.sys.1
  have e := h.all (l.length - 1) (by omega)
  rwa [show l.length - 1 + 1 = l.length from by omega, List.take_length] at e
theorem nv_app {l : List Int} (h : NV l) (h15 : l.length < 15) (m v : Int) (hm : 2 ≤ m) (hv : v = rd l ((l.length : Int) - 1) * m) (h5 : v ≤ 5000) : NV (l ++ [v]) := by
  have hs := h.sys
  have hlen := hs.1
  have hq := sys_rd hs (l.length - 1) (by omega)
  rw [show ((l.length - 1 : Nat) : Int) = (l.length : Int) - 1 from by omega] at hq
  obtain ⟨c, hc⟩ : ∃ c, rd l ((l.length : Int) - 1) = c := ⟨_, rfl⟩
  have hlt : rd l ((l.length : Int) - 1) < v := by
    rw [hc] at hv hq ⊢
    have := Int.mul_le_mul_of_nonneg_left hm (show 0 ≤ c by omega)
    omega
  have hcm : m * rd l ((l.length : Int) - 1) = v := by rw [hv, Int.mul_comm]
  have hp := one_plain l hs h15 v m hlt h5 h.rv (by rw [Int.sub_mul, hcm]; omega) (by omega) (by omega)
  rw [hcm, Int.sub_self] at hp
  have hg := g_le (DD l) (okD hs) 0
  rw [show (0 : Int).toNat = 0 from rfl, decide_eq_true (by omega), beq_iff_eq] at hp
  refine ⟨sys_app hs v h15 hlt h5, fun i hi => ?_⟩
  by_cases e : i = l.length
  · subst e
    rw [List.take_of_length_le (by simp)]
    exact hp
  · rw [List.length_append] at hi
    simp only [List.length_singleton] at hi
    rw [List.take_append_of_le_length (by omega)]
    exact h.all i (by omega)
theorem nv_one : NV [1] := by
  have hs : Sys [1] := ⟨by simp, by simp, rfl, fun i i0 i1 => by
    obtain rfl : i = 0 := by simp at i1; omega
    exact ⟨by decide, fun h => absurd h (by decide)⟩⟩
  have hD : DD [1] = [1] := rfl
  have hi : IsFew [1] (fun x => x) := ⟨rfl, fun a c hc h => by
    obtain rfl : c = 1 := by simpa using hc
    show a ≤ a - 1 + 1
    omega, fun a h => ⟨1, by simp, by omega, by show a = a - 1 + 1; omega⟩⟩
  have hr : RV [1] = 0 := (res_nonneg hs (RV_res hs)).2.2 fun x => by
    have h1 := isFew hs
    rw [hD] at h1
    rw [few_unique (by simp) h1 hi x, hD]
    simp [g, G]
  refine ⟨hs, fun i h => ?_⟩
  obtain rfl : i = 0 := by simp at h; omega
  exact hr
theorem never_l2 (x10 : List Int) (x11 x12 : Int) (hx : 0 ≤ x12 ∧ x12 < 2) (p : List Bool) (hp : p.length ≤ 1000) (hall : ∀ i, i < p.length → rdOf false p (i : Int) = true) (k : Ev (fun k => pomadelaw05_CoinsNever.l1 k x10 x10 x11 (x12 + 1)) true) (d : Nat) : ∀ q : Nat, q + d = p.length →
    Ev (fun k => pomadelaw05_CoinsNever.l2 k x10 x11 x12 p (q : Int)) true := by
  induction d with
  | zero =>
    intro q hq
    refine Ev.step (fun k => ?_) k
    simp only [pomadelaw05_CoinsNever.l2]
    rw [if_neg (by omega), w64 (by omega) (by omega)]
  | succ d ih =>
    intro q hq
    refine Ev.step (fun k => ?_) (ih (q + 1) (by omega))
    simp only [pomadelaw05_CoinsNever.l2]
    rw [if_pos (by omega), if_pos (by omega), if_pos (hall q (by omega)), w64 (by omega) (by omega)]
    rfl
theorem never_turn (l two : List Int) (h : NV l) (a x12 : Int) (hx : 0 ≤ x12 ∧ x12 < 2) (h0 : 0 ≤ a) (h1 : a ≤ 100000) (k : Ev (fun k => pomadelaw05_CoinsNever.l1 k two two a (x12 + 1)) true) : Ev (fun k => pomadelaw05_CoinsNever.l1 k l two a x12) true := by
  have hs := h.sys
  have hr := h.rv
  have hlen2 := hs.2.1
  have e1 : greedyV l a = ((coins_greedy.gl l a).1, 0) := by unfold greedyV; rw [if_pos (err_ok' hs (by omega) (by omega))]
  have e2 : bestV l a = ((coins_greedy.gl l a).1, 0) := by unfold bestV; rw [if_pos (err_ok' hs (by omega) (by omega)), best_greedy l hs hr a h0]
  have hf := Fails_ev l hs _ (RV_res hs)
  rw [if_neg (by omega)] at hf
  refine Ev.step (f := fun k => (coins_Fails.f k l).bind fun bt368 => ((coins_Greedy.f k l a).bind fun bt370 => ((coins_Best.f k l a).bind fun bt374 => ((coins_Prefixes.f k l).bind fun bt378 => (if bt368.2 = 10 then (if bt370.2 = 0 then (if bt374.2 = 0 then (if bt378.2 = 0 then ((pomadelaw05_same.f k bt370.1 bt374.1).bind fun t382 => (if t382 = true then (pomadelaw05_CoinsNever.j4 k two a x12 bt378.1 ((bt378.1.length : Int) != (l.length : Int))) else (pomadelaw05_CoinsNever.j4 k two a x12 bt378.1 true))) else (pomadelaw05_CoinsNever.j4 k two a x12 bt378.1 true)) else (pomadelaw05_CoinsNever.j4 k two a x12 bt378.1 true)) else (pomadelaw05_CoinsNever.j4 k two a x12 bt378.1 true)) else (pomadelaw05_CoinsNever.j4 k two a x12 bt378.1 true)))))) (fun k => ?_) ?_
  · simp only [pomadelaw05_CoinsNever.l1]; rw [if_pos hx.2]
  refine Ev.bind hf (Ev.bind (greedyV_ev l a) (Ev.bind (bestV_ev l a) (Ev.bind (prefixes_ev l hs) ?_)))
  rw [e1, e2]
  simp only [if_true]
  refine Ev.bind (same_ev _ (by rw [coins_greedy.gl_len]; omega)) ?_
  simp only [if_true]
  refine Ev.step (f := fun k => pomadelaw05_CoinsNever.l2 k two a x12 (judged l l.length) 0) (fun k => ?_) (never_l2 two a x12 hx _ (by rw [judged_len]; omega) (fun i hi => ?_) k l.length 0 (by rw [judged_len]; omega))
  · simp only [pomadelaw05_CoinsNever.j4]
    rw [if_neg (by rw [judged_len]; simp)]
  · rw [judged_len] at hi
    have e := h.all i hi
    simp [rdOf, judged, List.getD_eq_getElem?_getD, hi, e]
theorem never_j2 (l : List Int) (h : NV l) (a1 a2 : Int) (h1 : 0 ≤ a1 ∧ a1 ≤ 65535) (h2 : 0 ≤ a2 ∧ a2 ≤ 4294967295) : Ev (fun k => pomadelaw05_CoinsNever.j2 k a1 a2 l) true := by
  obtain ⟨v, hv⟩ : ∃ v, 2 + a1 % 4999 = v := ⟨_, rfl⟩
  obtain ⟨a, ha⟩ : ∃ a, a2 % 100001 = a := ⟨_, rfl⟩
  have ht : NV [1, v] := nv_app nv_one (by simp) v v (by omega) (by simp [rd]) (by omega)
  refine Ev.step (f := fun k => pomadelaw05_CoinsNever.l1 k l [1, v] a 0) (fun k => ?_) ?_
  · simp only [pomadelaw05_CoinsNever.j2]
    rw [w64 (x := a1) (by omega) (by omega), Int.tmod_eq_emod_of_nonneg h1.1, Int.tmod_eq_emod_of_nonneg h2.1, hv, ha, w64 (x := v) (by omega) (by omega), w64 (x := a) (by omega) (by omega)]
  refine never_turn l [1, v] h a 0 (by omega) (by omega) (by omega) (never_turn [1, v] [1, v] ht a (0 + 1) (by omega) (by omega) (by omega) ?_)
  refine Ev.step (f := fun k => (pomadelaw05_alive.f k).bind fun t => some t) (fun k => ?_) (Ev.bind alive_ev (Ev.now true))
  simp only [pomadelaw05_CoinsNever.l1]
  rw [if_neg (by omega)]
theorem never_l0 (fs : List Int) (hfl : fs.length ≤ 40) (hf : ∀ x ∈ fs, 0 ≤ x ∧ x ≤ 255) (a1 a2 : Int) (h1 : 0 ≤ a1 ∧ a1 ≤ 65535) (h2 : 0 ≤ a2 ∧ a2 ≤ 4294967295) (d : Nat) : ∀ (q : Nat) (l : List Int), q + d = fs.length → NV l → Ev (fun k => pomadelaw05_CoinsNever.l0 k fs a1 a2 l (q : Int)) true := by
  induction d with
  | zero =>
    intro q l hq h
    refine Ev.step (f := fun k => pomadelaw05_CoinsNever.j1 k fs a1 a2 l (q : Int) false) (fun k => ?_) (Ev.step (fun k => ?_) (never_j2 l h a1 a2 h1 h2))
    · simp only [pomadelaw05_CoinsNever.l0]
      rw [if_neg (by omega)]
    · simp only [pomadelaw05_CoinsNever.j1]
      rw [if_neg (by simp)]
  | succ d ih =>
    intro q l hq h
    have hs := h.sys
    have hlen := hs.1
    have hlen2 := hs.2.1
    have hfq := hf (rd fs (q : Int)) (by simp [rd, List.getD_eq_getElem?_getD, show q < fs.length from by omega])
    obtain ⟨x, hx⟩ : ∃ x, rd fs (q : Int) = x := ⟨_, rfl⟩
    rw [hx] at hfq
    have hq2 := sys_rd hs (l.length - 1) (by omega)
    rw [show ((l.length - 1 : Nat) : Int) = (l.length : Int) - 1 from by omega] at hq2
    obtain ⟨c, hc⟩ : ∃ c, rd l ((l.length : Int) - 1) = c := ⟨_, rfl⟩
    have hc' := hc
    rw [hc] at hq2
    obtain ⟨m, hm⟩ : ∃ m, 2 + x % 5 = m := ⟨_, rfl⟩
    obtain ⟨v, hv⟩ : ∃ v, c * m = v := ⟨_, rfl⟩
    have hvb : 0 ≤ v ∧ v ≤ 30000 := by
      have g1 := Int.mul_le_mul_of_nonneg_left (show m ≤ 6 by omega) (show 0 ≤ c by omega)
      have g2 := Int.mul_nonneg (show 0 ≤ c by omega) (show 0 ≤ m by omega)
      omega
    by_cases h15 : l.length < 15
    · refine Ev.step (f := fun k => pomadelaw05_CoinsNever.j1 k fs a1 a2 l (q : Int) true) (fun k => ?_) ?_
      · simp only [pomadelaw05_CoinsNever.l0]
        rw [if_pos (by omega), decide_eq_true (by omega)]
      have w0 : wrap64 ((l.length : Int) - 1) = (l.length : Int) - 1 := w64 (by omega) (by omega)
      have w1 : wrap64 (Int.tmod x 5) = x % 5 := by rw [Int.tmod_eq_emod_of_nonneg hfq.1]; exact w64 (by omega) (by omega)
      have w2 : wrap64 (2 + x % 5) = m := by rw [hm]; exact w64 (by omega) (by omega)
      have w3 : wrap64 (c * m) = v := by rw [hv]; exact w64 (by omega) (by omega)
      by_cases h5 : v > 5000
      · refine Ev.step (fun k => ?_) (never_j2 l h a1 a2 h1 h2)
        simp only [pomadelaw05_CoinsNever.j1]
        rw [if_pos trivial]
        simp only [w0, hc, hx, w1, w2, w3]
        rw [if_pos (by omega), if_pos (by omega), if_pos (by omega), if_pos (by omega), if_pos h5]
      · refine Ev.step (fun k => ?_) (ih (q + 1) (l ++ [v]) (by omega) (nv_app h h15 m v (by omega) (by rw [hc', hv]) (by omega)))
        simp only [pomadelaw05_CoinsNever.j1]
        rw [if_pos trivial]
        simp only [w0, hc, hx, w1, w2, w3]
        rw [if_pos (by omega), if_pos (by omega), if_pos (by omega), if_pos (by omega), if_neg h5, if_pos (by omega), w64 (by omega) (by omega)]
        rfl
    · refine Ev.step (f := fun k => pomadelaw05_CoinsNever.j1 k fs a1 a2 l (q : Int) false) (fun k => ?_) (Ev.step (fun k => ?_) (never_j2 l h a1 a2 h1 h2))
      · simp only [pomadelaw05_CoinsNever.l0]
        rw [if_pos (by omega), decide_eq_false (by omega)]
      · simp only [pomadelaw05_CoinsNever.j1]
        rw [if_neg (by simp)]
theorem CoinsNever_pure : pomadelaw05_CoinsNever.Pure := by
  intro fs a1 a2 _ _ hf h1 h2
  have e0 : IntKind.u16.min = 0 := by decide +kernel
  have e1 : IntKind.u16.max = 65535 := by decide +kernel
  have e2 : IntKind.u32.min = 0 := by decide +kernel
  have e3 : IntKind.u32.max = 4294967295 := by decide +kernel
  have e4 : IntKind.u8.min = 0 := by decide +kernel
  have e5 : IntKind.u8.max = 255 := by decide +kernel
  have h1' : 0 ≤ a1 ∧ a1 ≤ 65535 := by simp [Lit.wf, e0, e1] at h1; exact h1
  have h2' : 0 ≤ a2 ∧ a2 ≤ 4294967295 := by simp [Lit.wf, e2, e3] at h2; exact h2
  have hf' : ∀ x ∈ fs, 0 ≤ x ∧ x ≤ 255 := fun x hx => by have := hf x hx; simp [Lit.wf, e4, e5] at this; exact this
  refine Ev.rounds ?_
  by_cases c : (fs.length : Int) > 40
  · exact Ev.congr (fun k => by unfold pomadelaw05_CoinsNever.f; rw [if_pos c]) (Ev.bind alive_ev (Ev.now true))
  refine Ev.congr (fun k => by unfold pomadelaw05_CoinsNever.f; rw [if_neg c]) ?_
  exact never_l0 fs (by omega) hf' a1 a2 h1' h2' fs.length 0 [1] (by omega) nv_one
end Go.Proofs.Ytgbalmjnjpfopaa.L
namespace Go.Proofs.Ytgbalmjnjpfopaa.Pure
theorem CoinsNever : Go.Proofs.Ytgbalmjnjpfopaa.PC.pomadelaw05_CoinsNever.Pure := Go.Proofs.Ytgbalmjnjpfopaa.L.CoinsNever_pure
end Go.Proofs.Ytgbalmjnjpfopaa.Pure
