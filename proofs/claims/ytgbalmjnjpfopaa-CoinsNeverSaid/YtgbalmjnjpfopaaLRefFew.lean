/- Coin systems: the specification's table. -/
import Derived.Test.YtgbalmjnjpfopaaLTab
import Derived.Test.YtgbalmjnjpfopaaPCf41
namespace Go.Proofs.Ytgbalmjnjpfopaa.L
open Go.RowKit Go.Proofs.Ytgbalmjnjpfopaa.PC Go.Proofs.YtgbalmjnjpfopaaW.PrintWords Go.Proofs.YtgbalmjnjpfopaaW.PrintLast Go.Proofs.Ytgbalmjnjpfopaa.M

/-- the inner loop of the specification -/
theorem few_in (l : List Int) (hs : Sys l) (am a : Int) (h0 : 1 ≤ a) (h1 : a ≤ am) (h2 : am ≤ 1000000) (r : List Int)
    (next : ∀ out, Part l am (a + 1) out → Ev (fun k => pomaderef05_Few.l0 k l am out (a + 1)) r) (d : Nat) : ∀ (q m : Nat) (out : List Int), q + d = l.length - 1 → Part l am a out → rd out a = (m : Int) → m ≤ 1000001 →
    best1 (F l) a.toNat ((LL l).drop q) m = F l a.toNat → Ev (fun k => pomaderef05_Few.l1 k l am out a ((q + 1 : Nat) : Int)) r := by
  have hlen := hs.2.1
  have hlen0 := hs.1
  induction d with
  | zero =>
    intro q m out hq hp hm hmb hb
    rw [List.drop_of_length_le (by rw [LL_len]; omega)] at hb
    simp only [best1] at hb
    refine Ev.step (fun k => ?_) (next out (part_next hp (by omega) (fun _ => by rw [hm, hb])))
    simp only [pomaderef05_Few.l1]
    rw [if_neg (by omega), w64 (by omega) (by omega)]
  | succ d ih =>
    intro q m out hq hp hm hmb hb
    have hql : q < (LL l).length := by rw [LL_len]; omega
    rw [drop_at _ q hql] at hb
    simp only [best1] at hb
    have hc := LL_at (l := l) q (by omega)
    have hcr := hs.range (rd l ((q + 1 : Nat) : Int)) (by simp [rd, List.getD_eq_getElem?_getD, show q + 1 < l.length by omega])
    obtain ⟨c, hce⟩ : ∃ c, rd l ((q + 1 : Nat) : Int) = c := ⟨_, rfl⟩
    rw [hce] at hc hcr
    rw [hc] at hb
    have ho := hp.1
    by_cases hca : c ≤ a
    · rw [if_pos (by omega)] at hb
      have e1 := hp.2 (a - c) (by omega) (by omega) (by omega)
      have e2 : (a - c).toNat = a.toNat - c.toNat := by omega
      have e3 := F_le hs (a.toNat - c.toNat)
      rw [e2] at e1
      have hmn : mn (m : Int) ((F l (a.toNat - c.toNat) : Int) + 1) = ((min m (F l (a.toNat - c.toNat) + 1) : Nat) : Int) := by unfold mn; omega
      refine Ev.step (fun k => ?_) (ih (q + 1) (min m (F l (a.toNat - c.toNat) + 1)) (out.set a.toNat (mn (m : Int) ((F l (a.toNat - c.toNat) : Int) + 1))) (by omega) (part_set _ hp (by omega) h1) (by rw [rd_set_eq _ _ _ (by omega) (by omega), hmn]) (by omega) hb)
      simp only [pomaderef05_Few.l1]
      rw [hce, if_pos (by omega), if_pos (by omega), if_pos hca, if_pos (by omega), if_pos (by omega), w64 (x := a - c) (by omega) (by omega), if_pos (by omega), if_pos (by omega), hm, e1, w64 (x := (F l (a.toNat - c.toNat) : Int) + 1) (by omega) (by omega), w64 (x := ((q + 1 : Nat) : Int) + 1) (by omega) (by omega)]
      rfl
    · rw [if_neg (by omega)] at hb
      refine Ev.step (fun k => ?_) (next out (part_next hp (by omega) (fun _ => by rw [hm, hb])))
      simp only [pomaderef05_Few.l1]
      rw [hce, if_pos (by omega), if_pos (by omega), if_neg hca, w64 (by omega) (by omega)]
theorem few_loop (l : List Int) (hs : Sys l) (am : Int) (h0 : 0 ≤ am) (h2 : am ≤ 1000000) (d : Nat) : ∀ (a : Int) (out : List Int), 1 ≤ a → am + 1 - a ≤ d → Part l am a out → Ev (fun k => pomaderef05_Few.l0 k l am out a) (tabF l am) := by
  induction d with
  | zero =>
    intro a out ha hd hp
    rw [← part_all h0 hp (by omega)]
    refine Ev.step (f := fun _ => some out) (fun k => ?_) (Ev.now _)
    simp only [pomaderef05_Few.l0]
    rw [if_neg (by omega)]
  | succ d ih =>
    intro a out ha hd hp
    by_cases c : a ≤ am
    · have ho := hp.1
      have hlen := hs.1
      have hb := Fw_eq (LL l) (LL_pos hs) a.toNat (by omega)
      refine Ev.step (fun k => ?_) (few_in l hs am a ha c h2 _ (fun out' h => ih (a + 1) out' (by omega) (by omega) h) (l.length - 1) 0 a.toNat (out.set a.toNat a) (by omega) (part_set _ hp (by omega) c) (by rw [rd_set_eq _ _ _ (by omega) (by omega)]; omega) (by omega) (by rw [List.drop_zero]; exact hb.symm))
      simp only [pomaderef05_Few.l0]
      rw [if_pos c, if_pos (by omega), if_pos (by omega)]
      rfl
    · rw [← part_all h0 hp (by omega)]
      refine Ev.step (f := fun _ => some out) (fun k => ?_) (Ev.now _)
      simp only [pomaderef05_Few.l0]
      rw [if_neg c]
theorem few_ev (l : List Int) (hs : Sys l) (am : Int) (h0 : 0 ≤ am) (h2 : am ≤ 1000000) : Ev (fun k => pomaderef05_Few.f k l am) (tabF l am) := by
  refine Ev.congr (fun k => ?_) (few_loop l hs am h0 h2 am.toNat 1 _ (Int.le_refl _) (by omega) (part_start l am h0))
  unfold pomaderef05_Few.f
  rw [w64 (by omega) (by omega), if_pos (by omega), if_pos (by omega)]
end Go.Proofs.Ytgbalmjnjpfopaa.L
