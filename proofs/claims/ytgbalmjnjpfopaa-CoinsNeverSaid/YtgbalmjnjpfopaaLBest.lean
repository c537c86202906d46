/- Coin systems: the best change is a change with the least number of coins; the least amount for which greed fails, as a value; beginnings of systems. -/
import Derived.Test.YtgbalmjnjpfopaaLFails
namespace Go.Proofs.Ytgbalmjnjpfopaa.L
open Go.RowKit Go.Proofs.Ytgbalmjnjpfopaa.PC Go.Proofs.YtgbalmjnjpfopaaW.PrintWords Go.Proofs.YtgbalmjnjpfopaaW.PrintLast Go.Proofs.Ytgbalmjnjpfopaa.M

theorem cnt_nat (l : List Int) (am v : Int) (hv : 1 ≤ v) (d : Nat) : ∀ a : Int, 0 ≤ a → a ≤ am → coins_best.cnt (tabF l am) v d a = cntN (F l) v.toNat d a.toNat := by
  induction d with
  | zero => intro a _ _; rfl
  | succ d ih =>
    intro a h0 h1
    simp only [coins_best.cnt, cntN]
    by_cases c : v ≤ a
    · rw [rd_tabF l am (a - v) (by omega) (by omega), rd_tabF l am a h0 h1, show (a - v).toNat = a.toNat - v.toNat from by omega]
      by_cases c2 : F l (a.toNat - v.toNat) + 1 = F l a.toNat
      · rw [if_pos ⟨c, by omega⟩, if_pos ⟨by omega, c2⟩, ih (a - v) (by omega) (by omega), show (a - v).toNat = a.toNat - v.toNat from by omega]
      · rw [if_neg (fun h => c2 (by have := h.2; omega)), if_neg (fun h => c2 h.2)]
    · rw [if_neg (fun h => c h.1), if_neg (fun h => c (by have := h.1; omega))]
theorem bl_nat (l : List Int) (hs : Sys l) (am : Int) : ∀ (l' : List Int), (∀ v ∈ l', v ∈ l) → ∀ a : Int, 0 ≤ a → a ≤ am →
    nats (coins_best.bl (tabF l am) l' a).1 = (bN (F l) (nats l') a.toNat).1 ∧ (coins_best.bl (tabF l am) l' a).2 = ((bN (F l) (nats l') a.toNat).2 : Int) ∧ (∀ x ∈ (coins_best.bl (tabF l am) l' a).1, 0 ≤ x) ∧ (bN (F l) (nats l') a.toNat).2 ≤ a.toNat := by
  intro l'
  induction l' with
  | nil => intro _ a h0 _; exact ⟨rfl, by simp [coins_best.bl, bN, nats]; omega, fun x hx => by simp [coins_best.bl] at hx, by simp [bN, nats]⟩
  | cons v l' ih =>
    intro hv a h0 h1
    obtain ⟨i1, i2, i3, i4⟩ := ih (fun x hx => hv x (List.mem_cons_of_mem _ hx)) a h0 h1
    have hvr := hs.range v (hv v List.mem_cons_self)
    have hvD : v.toNat ∈ DD l := by simp only [DD, nats, List.mem_reverse, List.mem_map]; exact ⟨v, hv v List.mem_cons_self, rfl⟩
    have hc := cnt_nat l am v hvr.1 (coins_best.bl (tabF l am) l' a).2.toNat (coins_best.bl (tabF l am) l' a).2 (by rw [i2]; omega) (by rw [i2]; omega)
    have hc2 : (coins_best.bl (tabF l am) l' a).2.toNat = (bN (F l) (nats l') a.toNat).2 := by rw [i2]; exact Int.toNat_natCast _
    rw [hc2] at hc
    obtain ⟨c1, _, _, _⟩ := cntN_spec (isFew hs) hvD (by omega) (bN (F l) (nats l') a.toNat).2 (bN (F l) (nats l') a.toNat).2 (Nat.le_refl _)
    have en : nats (v :: l') = v.toNat :: nats l' := rfl
    rw [en]
    simp only [coins_best.bl, bN]
    rw [hc2, hc]
    refine ⟨?_, ?_, ?_, ?_⟩
    · simp only [nats, List.map_cons] at i1 ⊢
      rw [i1]; simp
    · rw [i2, Int.natCast_sub c1, Int.natCast_mul, Int.toNat_of_nonneg (by omega)]
    · intro x hx
      rcases List.mem_cons.1 hx with rfl | hx
      · omega
      · exact i3 x hx
    · omega
/-- the best change -/
def bestL (l : List Int) (a : Int) : List Int := (coins_best.bl (tabF l a) l a).1
theorem bl_len (few l : List Int) (a : Int) : (coins_best.bl few l a).1.length = l.length := coins_best.bl_len few l a
theorem best_ev (l : List Int) (hs : Sys l) (a : Int) (h0 : 0 ≤ a) (h1 : a ≤ 1000000) : Ev (fun k => coins_best.f k l a) (bestL l a) := by
  refine Ev.bind (fewest_ev l hs a h0 h1) ?_
  refine Ev.congr (fun k => ?_) (Ev.now _)
  rw [if_pos]
  · rfl
  · refine ⟨by have := hs.2.1; omega, fun v hv => by have := hs.range v hv; omega, h0, h1, by rw [tabF_len]; omega, fun x hx => ?_⟩
    simp only [tabF, List.mem_map, List.mem_range] at hx
    obtain ⟨b, hb, rfl⟩ := hx
    have := F_le hs b
    omega
noncomputable def bestV (l : List Int) (a : Int) : List Int × Int := if err l a 100000 = 0 then (bestL l a, 0) else ([], err l a 100000)
theorem bestV_ev (l : List Int) (a : Int) : Ev (fun k => coins_Best.f k l a) (bestV l a) := by
  refine Ev.bind (looked_ev l a _) ?_
  unfold bestV
  split
  · rename_i h
    obtain ⟨hs, h0, h1⟩ := err_zero h
    exact Ev.bind (best_ev l hs a h0 (by omega)) (Ev.now _)
  · exact Ev.now _
theorem best_spec (l : List Int) (hs : Sys l) (a : Int) (h0 : 0 ≤ a) : (bestL l a).length = l.length ∧ (∀ x ∈ bestL l a, 0 ≤ x) ∧ val (nats l) (nats (bestL l a)) = a.toNat ∧ F l a.toNat = (nats (bestL l a)).sum := by
  obtain ⟨b1, b2, b3, b4⟩ := bl_nat l hs a l (fun _ h => h) a h0 (Int.le_refl _)
  obtain ⟨c1, c2, c3, c4⟩ := bN_best (okD hs).pos (isFew hs) (nats l) (fun c => by simp [DD]) a.toNat
  unfold bestL
  refine ⟨bl_len _ _ _, b3, by rw [b1]; exact c2, by rw [b1]; exact c3⟩

theorem err_ok' {l : List Int} {a m : Int} (h : Sys l) (h0 : 0 ≤ a) (h1 : a ≤ m) : err l a m = 0 := by
  unfold err; rw [if_pos h, if_neg (by omega), if_neg (by omega)]

/-! ### beginnings -/
theorem rd_take' (l : List Int) (m : Nat) (i : Int) (h : i < m) : rd (l.take m) i = rd l i ∨ i < 0 := by
  by_cases h0 : 0 ≤ i
  · left
    unfold rd
    rw [List.getD_eq_getElem?_getD, List.getD_eq_getElem?_getD, List.getElem?_take, if_pos (by omega)]
  · right; omega
theorem sys_take' {l : List Int} (h : Sys l) (m : Nat) (h1 : 1 ≤ m) (hm : m ≤ l.length) : Sys (l.take m) := by
  obtain ⟨a, b, c, d⟩ := h
  have hl : (l.take m).length = m := by simp; omega
  have e : ∀ i : Int, 0 ≤ i → i < m → rd (l.take m) i = rd l i := fun i h0 h => by rcases rd_take' l m i h with h | h <;> omega
  refine ⟨by omega, by omega, by rw [e 0 (by omega) (by omega)]; exact c, fun i i0 i1 => ?_⟩
  have hi : i < (m : Int) := by omega
  have := d i i0 (by omega)
  refine ⟨by rw [e i i0 hi]; exact this.1, fun g => ?_⟩
  rw [e i i0 hi, e (i - 1) (by omega) (by omega)]
  exact this.2 g
open Classical in
/-- the least amount for which greed fails, or 0 -/
noncomputable def RV (l : List Int) : Int := if h : ∃ r, Res l r then Classical.choose h else 0
theorem RV_res {l : List Int} (hs : Sys l) : Res l (RV l) := by
  unfold RV
  rw [dif_pos (res_ex l hs)]
  exact Classical.choose_spec (res_ex l hs)
theorem RV_bound {l : List Int} (hs : Sys l) : 0 ≤ RV l ∧ RV l ≤ 10000 := by
  have h := RV_res hs
  refine ⟨(res_nonneg hs h).1, ?_⟩
  rcases h with ⟨_, h⟩ | ⟨w, h1, h2, h3⟩
  · omega
  · have := res_bound hs h1 h2
    have hc := sys_rd hs (l.length - 1) (by have := hs.1; omega)
    rw [show ((l.length - 1 : Nat) : Int) = (l.length : Int) - 1 from by have := hs.1; omega] at hc
    omega
end Go.Proofs.Ytgbalmjnjpfopaa.L
