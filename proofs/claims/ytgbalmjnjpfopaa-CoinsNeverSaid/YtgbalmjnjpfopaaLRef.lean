/- Coin systems: the specification's table, its sums, and the least amount for which greed fails, found among all amounts. -/
import Derived.Test.YtgbalmjnjpfopaaLFails
import Derived.Test.YtgbalmjnjpfopaaLRefFew
import Derived.Test.YtgbalmjnjpfopaaPCf37
namespace Go.Proofs.Ytgbalmjnjpfopaa.L
open Go.RowKit Go.Proofs.Ytgbalmjnjpfopaa.PC Go.Proofs.YtgbalmjnjpfopaaW.PrintWords Go.Proofs.YtgbalmjnjpfopaaW.PrintLast Go.Proofs.Ytgbalmjnjpfopaa.M

theorem rsum_loop (v : List Int) (hl : v.length ≤ 1000000) (hv : ∀ x ∈ v, 0 ≤ x) (hb : v.sum ≤ 4611686018427387904) (d : Nat) : ∀ (q : Nat) (s : Int), q + d = v.length → s + (v.drop q).sum = v.sum → 0 ≤ s → Ev (fun k => pomaderef05_sum.l0 k v s (q : Int)) v.sum := by
  induction d with
  | zero =>
    intro q s hq hs h0
    rw [List.drop_of_length_le (by omega)] at hs
    simp at hs
    refine Ev.step (f := fun _ => some v.sum) (fun k => ?_) (Ev.now _)
    simp only [pomaderef05_sum.l0]
    rw [if_neg (by omega), hs]
  | succ d ih =>
    intro q s hq hs h0
    have hql : q < v.length := by omega
    have e := sum_drop v q hql
    have n1 := sum_nonneg (v.drop (q + 1)) (fun x hx => hv x (List.mem_of_mem_drop hx))
    have n2 := hv (rd v (q : Int)) (by simp [rd, List.getD_eq_getElem?_getD, hql])
    refine Ev.step (fun k => ?_) (ih (q + 1) (s + rd v (q : Int)) (by omega) (by omega) (by omega))
    simp only [pomaderef05_sum.l0]
    rw [if_pos (by omega), if_pos (by omega), w64 (by omega) (by omega), w64 (by omega) (by omega)]
    rfl
theorem rsum_ev (v : List Int) (hl : v.length ≤ 1000000) (hv : ∀ x ∈ v, 0 ≤ x) (hb : v.sum ≤ 4611686018427387904) : Ev (fun k => pomaderef05_sum.f k v) v.sum :=
  rsum_loop v hl hv hb v.length 0 0 (by omega) (by simp) (Int.le_refl _)
theorem greedily_sum_ev (l : List Int) (hs : Sys l) (a : Int) (h0 : 0 ≤ a) (h1 : a ≤ 1000000) {β : Type} (f : Nat → Int → Option β) (r : β) (h : Ev (fun k => f k (g (DD l) a.toNat : Int)) r) :
    Ev (fun k => (pomaderef05_Greedily.f k l a).bind fun t => (pomaderef05_sum.f k t).bind fun s => f k s) r := by
  have hv : ∀ v ∈ l, 1 ≤ v := fun v hv => (hs.range v hv).1
  have hlen := hs.2.1
  have e := gl_sum l hs a h0
  have hg := g_le (DD l) (okD hs) a.toNat
  refine Ev.bind (greedily_ev l a (by omega) (fun v hv => by have := hs.range v hv; omega) h0 (by omega)) (Ev.bind (rsum_ev _ (by rw [coins_greedy.gl_len]; omega) (fun x hx => (gl_nonneg l hv a h0 x hx).1) (by rw [e]; omega)) ?_)
  rw [e]; exact h
theorem rfails_loop (l : List Int) (hs : Sys l) (r : Int) (hr : Res l r) (most : Int) (hm0 : 0 ≤ most) (hm : most ≤ 10000) (hw : ∀ w : Nat, F l w < g (DD l) w → (∀ x, x < w → F l x = g (DD l) x) → (w : Int) ≤ most) (d : Nat) :
    ∀ a : Int, 1 ≤ a → most + 1 - a ≤ d → (r = 0 ∨ a ≤ r) → Ev (fun k => pomaderef05_fails.l0 k l most (tabF l most) a) r := by
  induction d with
  | zero =>
    intro a ha hd har
    have hr0 : r = 0 := by
      rcases hr with ⟨_, h⟩ | ⟨w, h1, h2, h3⟩
      · exact h
      · have := hw w h1 h2
        rcases har with h | h
        · exact h
        · omega
    subst hr0
    refine Ev.step (f := fun _ => some 0) (fun k => ?_) (Ev.now _)
    simp only [pomaderef05_fails.l0]
    rw [if_neg (by omega)]
  | succ d ih =>
    intro a ha hd har
    by_cases c : a ≤ most
    · have hf := rd_tabF l most a (by omega) c
      have hfl := tabF_len l most
      refine Ev.step (f := fun k => (pomaderef05_Greedily.f k l a).bind fun t332 => ((pomaderef05_sum.f k t332).bind fun t335 => (if t335 > (F l a.toNat : Int) then (some a) else (pomaderef05_fails.l0 k l most (tabF l most) (a + 1))))) (fun k => ?_) ?_
      · simp only [pomaderef05_fails.l0]
        rw [if_pos c, w64 (by omega) (by omega)]
        simp only [if_pos (show 0 ≤ a by omega), if_pos (show a < ((tabF l most).length : Int) by omega), hf]
      · refine greedily_sum_ev l hs a (by omega) (by omega) _ r ?_
        rcases hr with ⟨h1, rfl⟩ | ⟨w, h1, h2, rfl⟩
        · refine Ev.congr (fun k => ?_) (ih (a + 1) (by omega) (by omega) (.inl rfl))
          rw [if_neg (by rw [h1]; omega)]
        · have haw : a ≤ (w : Int) := by
            rcases har with h | h
            · have : w = 0 := by omega
              subst this
              have hz : g (DD l) 0 ≤ 0 := g_le _ (okD hs) 0
              omega
            · exact h
          by_cases e : a = (w : Int)
          · subst e
            refine Ev.congr (fun k => ?_) (Ev.now _)
            rw [Int.toNat_natCast, if_pos (by omega)]
          · refine Ev.congr (fun k => ?_) (ih (a + 1) (by omega) (by omega) (.inr (by omega)))
            rw [if_neg (by rw [h2 a.toNat (by omega)]; omega)]
    · have hr0 : r = 0 := by
        rcases hr with ⟨_, h⟩ | ⟨w, h1, h2, h3⟩
        · exact h
        · have := hw w h1 h2
          rcases har with h | h
          · exact h
          · omega
      subst hr0
      refine Ev.step (f := fun _ => some 0) (fun k => ?_) (Ev.now _)
      simp only [pomaderef05_fails.l0]
      rw [if_neg c]
theorem rfails_ev (l : List Int) (hs : Sys l) (r : Int) (hr : Res l r) : Ev (fun k => pomaderef05_fails.f k l) r := by
  have hl := hs.1
  have hl2 := hs.2.1
  have hc := sys_rd hs (l.length - 1) (by omega)
  rw [show ((l.length - 1 : Nat) : Int) = (l.length : Int) - 1 from by omega] at hc
  refine Ev.congr (f := fun k => (pomaderef05_Few.f k l (2 * rd l ((l.length : Int) - 1))).bind fun t329 => pomaderef05_fails.l0 k l (2 * rd l ((l.length : Int) - 1)) t329 1) (fun k => ?_) ?_
  · unfold pomaderef05_fails.f
    rw [w64 (x := (l.length : Int) - 1) (by omega) (by omega), if_pos (by omega), if_pos (by omega), w64 (x := 2 * rd l ((l.length : Int) - 1)) (by omega) (by omega)]
  · refine Ev.bind (few_ev l hs _ (by omega) (by omega)) ?_
    refine rfails_loop l hs r hr _ (by omega) (by omega) (fun w h1 h2 => by have := res_bound hs h1 h2; omega) (2 * rd l ((l.length : Int) - 1)).toNat 1 (Int.le_refl _) (by omega) ?_
    rcases hr with ⟨_, h⟩ | ⟨w, h1, h2, h3⟩
    · exact .inl h
    · rcases Nat.eq_zero_or_pos w with rfl | h
      · exact .inl h3
      · exact .inr (by omega)
end Go.Proofs.Ytgbalmjnjpfopaa.L
