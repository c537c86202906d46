/- Coin systems: the tables of the program and of the specification hold the least numbers of coins. -/
import Derived.Test.YtgbalmjnjpfopaaLBase
import Derived.Test.YtgbalmjnjpfopaaPCg1
import Derived.Test.YtgbalmjnjpfopaaMFew
namespace Go.Proofs.Ytgbalmjnjpfopaa.L
open Go.RowKit Go.Proofs.Ytgbalmjnjpfopaa.PC Go.Proofs.YtgbalmjnjpfopaaW.PrintWords Go.Proofs.YtgbalmjnjpfopaaW.PrintLast Go.Proofs.Ytgbalmjnjpfopaa.M

def nats (l : List Int) : List Nat := l.map Int.toNat
/-- the coins beside 1; all coins, the greatest first -/
def LL (l : List Int) : List Nat := (nats l).tail
def DD (l : List Int) : List Nat := (nats l).reverse

theorem nats_at {l : List Int} (i : Nat) (hi : i < l.length) : at_ (nats l) i = (rd l (i : Int)).toNat := by
  simp [nats, at_, rd, List.getD_eq_getElem?_getD, hi]
theorem sys_pairwise {l : List Int} (h : Sys l) : (nats l).Pairwise (· < ·) := by
  rw [List.pairwise_iff_getElem]
  intro i j hi hj hij
  have hl : (nats l).length = l.length := by simp [nats]
  have key : ∀ (d i : Nat), i + d + 1 < l.length → rd l (i : Int) < rd l ((i + d + 1 : Nat) : Int) := by
    intro d
    induction d with
    | zero =>
      intro i hi
      have := (h.2.2.2 ((i + 0 + 1 : Nat) : Int) (by omega) (by omega)).2 (by omega)
      rwa [show ((i + 0 + 1 : Nat) : Int) - 1 = (i : Int) from by omega] at this
    | succ d ih =>
      intro i hi
      have h1 := ih i (by omega)
      have := (h.2.2.2 ((i + (d + 1) + 1 : Nat) : Int) (by omega) (by omega)).2 (by omega)
      rw [show ((i + (d + 1) + 1 : Nat) : Int) - 1 = ((i + d + 1 : Nat) : Int) from by omega] at this
      omega
  have h1 := key (j - i - 1) i (by omega)
  rw [show i + (j - i - 1) + 1 = j from by omega] at h1
  have p := h.pos i (by omega)
  have e1 : (nats l)[i] = (rd l (i : Int)).toNat := by simp [nats, rd, List.getD_eq_getElem?_getD, show i < l.length by omega]
  have e2 : (nats l)[j] = (rd l (j : Int)).toNat := by simp [nats, rd, List.getD_eq_getElem?_getD, show j < l.length by omega]
  rw [e1, e2]; omega
theorem sys_cons {l : List Int} (h : Sys l) : nats l = 1 :: LL l := by
  obtain ⟨h1, _, h3, _⟩ := h
  cases l with
  | nil => simp at h1
  | cons x l =>
    have : x = 1 := by simpa [rd] using h3
    subst this
    simp [nats, LL]
theorem LL_pos {l : List Int} (h : Sys l) : ∀ c ∈ LL l, 1 ≤ c := by
  intro c hc
  have hp := sys_pairwise h
  rw [sys_cons h, List.pairwise_cons] at hp
  have := hp.1 c hc; omega
theorem LL_pairwise {l : List Int} (h : Sys l) : (LL l).Pairwise (· < ·) := by
  have hp := sys_pairwise h
  rw [sys_cons h, List.pairwise_cons] at hp
  exact hp.2
theorem okD_of : ∀ (D : List Nat), D.Pairwise (· > ·) → D.getLast? = some 1 → OkD D := by
  intro D
  induction D with
  | nil => intro _ h; simp at h
  | cons c r ih =>
    intro hp hl
    cases r with
    | nil => show c = 1; simpa using hl
    | cons d r =>
      obtain ⟨h1, h2⟩ := List.pairwise_cons.1 hp
      exact ⟨h1 d List.mem_cons_self, ih h2 (by simpa [List.getLast?_cons] using hl)⟩
theorem okD {l : List Int} (h : Sys l) : OkD (DD l) := by
  refine okD_of _ ?_ ?_
  · unfold DD; rw [List.pairwise_reverse]; exact sys_pairwise h
  · unfold DD; rw [List.getLast?_reverse, sys_cons h]; rfl
theorem DD_eq {l : List Int} (h : Sys l) : DD l = (1 :: LL l).reverse := by unfold DD; rw [sys_cons h]
/-- the least numbers of coins of a system -/
def F (l : List Int) : Nat → Nat := Fw (LL l)
theorem isFew {l : List Int} (h : Sys l) : IsFew (DD l) (F l) := by rw [DD_eq h]; exact isFew_Fw _ (LL_pos h) (LL_pairwise h)
theorem F_le {l : List Int} (h : Sys l) (a : Nat) : F l a ≤ a := Fw_le_self _ (LL_pos h) (LL_pairwise h) a

/-- the table up to am -/
def tabF (l : List Int) (am : Int) : List Int := (List.range (am + 1).toNat).map fun b => (F l b : Int)
theorem tabF_len (l : List Int) (am : Int) : (tabF l am).length = (am + 1).toNat := by simp [tabF]
theorem rd_tabF (l : List Int) (am b : Int) (h0 : 0 ≤ b) (h1 : b ≤ am) : rd (tabF l am) b = (F l b.toNat : Int) := by
  unfold rd tabF
  rw [List.getD_eq_getElem?_getD, List.getElem?_map, List.getElem?_range (by omega)]
  rfl
/-- below a all stands -/
def Part (l : List Int) (am a : Int) (out : List Int) : Prop := (out.length : Int) = am + 1 ∧ ∀ b : Int, 0 ≤ b → b < a → b ≤ am → rd out b = (F l b.toNat : Int)
theorem part_all {l : List Int} {am : Int} {out : List Int} {a : Int} (h0 : 0 ≤ am) (h : Part l am a out) (ha : am < a) : out = tabF l am := by
  obtain ⟨h1, h2⟩ := h
  apply List.ext_getElem
  · rw [tabF_len]; omega
  · intro i hi hi2
    have e1 := h2 (i : Int) (by omega) (by omega) (by omega)
    have e2 := rd_tabF l am (i : Int) (by omega) (by omega)
    have e3 : rd out (i : Int) = out[i] := by simp [rd, List.getD_eq_getElem?_getD, hi]
    have e4 : rd (tabF l am) (i : Int) = (tabF l am)[i] := by simp [rd, List.getD_eq_getElem?_getD, hi2]
    rw [← e3, ← e4, e1, e2]
theorem rd_set_eq (l : List Int) (i : Int) (v : Int) (h0 : 0 ≤ i) (h : i < l.length) : rd (l.set i.toNat v) i = v := by
  rw [coins_best.rd_set l i i v h0 h0 h, if_pos rfl]
theorem part_set {l : List Int} {am a : Int} {out : List Int} (v : Int) (h : Part l am a out) (h0 : 0 ≤ a) (ha : a ≤ am) : Part l am a (out.set a.toNat v) := by
  obtain ⟨h1, h2⟩ := h
  refine ⟨by simp [h1], fun b b0 b1 b2 => ?_⟩
  rw [coins_best.rd_set out a b v h0 b0 (by omega), if_neg (by omega), h2 b b0 b1 b2]
theorem part_next {l : List Int} {am a : Int} {out : List Int} (h : Part l am a out) (h0 : 0 ≤ a) (hv : a ≤ am → rd out a = (F l a.toNat : Int)) : Part l am (a + 1) out := by
  obtain ⟨h1, h2⟩ := h
  refine ⟨h1, fun b b0 b1 b2 => ?_⟩
  by_cases e : b = a
  · subst e; exact hv b2
  · exact h2 b b0 (by omega) b2

theorem drop_at (L : List Nat) (q : Nat) (h : q < L.length) : L.drop q = at_ L q :: L.drop (q + 1) := by
  rw [List.drop_eq_getElem_cons h]; simp [at_, List.getD_eq_getElem?_getD, h]
theorem LL_len (l : List Int) : (LL l).length = l.length - 1 := by simp [LL, nats]
theorem LL_at {l : List Int} (q : Nat) (h : q + 1 < l.length) : at_ (LL l) q = (rd l ((q + 1 : Nat) : Int)).toNat := by
  rw [← nats_at (q + 1) h]
  unfold LL at_
  rw [List.getD_eq_getElem?_getD, List.getD_eq_getElem?_getD]
  simp

/-- the inner loop of the program -/
theorem fewest_in (l : List Int) (hs : Sys l) (am a : Int) (h0 : 1 ≤ a) (h1 : a ≤ am) (h2 : am ≤ 1000000) (r : List Int)
    (next : ∀ out, Part l am (a + 1) out → Ev (fun k => coins_fewest.l0 k l am out (a + 1)) r) (d : Nat) : ∀ (q m : Nat) (out : List Int), q + d = l.length - 1 → Part l am a out → rd out a = (m : Int) → m ≤ 1000001 →
    best1 (F l) a.toNat ((LL l).drop q) m = F l a.toNat → Ev (fun k => coins_fewest.l1 k l am out a (l.drop 1) ((l.drop 1).length : Int) (q : Int)) r := by
  have hlen := hs.2.1
  have hlen0 := hs.1
  induction d with
  | zero =>
    intro q m out hq hp hm hmb hb
    rw [List.drop_of_length_le (by rw [LL_len]; omega)] at hb
    simp only [best1] at hb
    refine Ev.step (fun k => ?_) (next out (part_next hp (by omega) (fun _ => by rw [hm, hb])))
    simp only [coins_fewest.l1]
    rw [if_neg (by simp; omega), w64 (by omega) (by omega)]
  | succ d ih =>
    intro q m out hq hp hm hmb hb
    have hql : q < (LL l).length := by rw [LL_len]; omega
    rw [drop_at _ q hql] at hb
    simp only [best1] at hb
    have hc := LL_at (l := l) q (by omega)
    have hcr := hs.range (rd l ((q + 1 : Nat) : Int)) (by simp [rd, List.getD_eq_getElem?_getD, show q + 1 < l.length by omega])
    have hdr : rd (l.drop 1) (q : Int) = rd l ((q + 1 : Nat) : Int) := by
      unfold rd
      rw [List.getD_eq_getElem?_getD, List.getD_eq_getElem?_getD, List.getElem?_drop, Int.toNat_natCast, Int.toNat_natCast, Nat.add_comm]
    obtain ⟨c, hce⟩ : ∃ c, rd l ((q + 1 : Nat) : Int) = c := ⟨_, rfl⟩
    rw [hce] at hc hcr hdr
    rw [hc] at hb
    have ho := hp.1
    by_cases hca : c > a
    · rw [if_neg (by omega)] at hb
      refine Ev.step (fun k => ?_) (next out (part_next hp (by omega) (fun _ => by rw [hm, hb])))
      simp only [coins_fewest.l1]
      rw [hdr, if_pos (by simp; omega), if_pos (by omega), if_pos (by simp; omega), if_pos hca, w64 (by omega) (by omega)]
    · rw [if_pos (by omega)] at hb
      have e1 := hp.2 (a - c) (by omega) (by omega) (by omega)
      have e2 : (a - c).toNat = a.toNat - c.toNat := by omega
      have e3 := F_le hs (a.toNat - c.toNat)
      rw [e2] at e1
      have hmn : mn (m : Int) ((F l (a.toNat - c.toNat) : Int) + 1) = ((min m (F l (a.toNat - c.toNat) + 1) : Nat) : Int) := by unfold mn; omega
      refine Ev.step (fun k => ?_) (ih (q + 1) (min m (F l (a.toNat - c.toNat) + 1)) (out.set a.toNat (mn (m : Int) ((F l (a.toNat - c.toNat) : Int) + 1))) (by omega) (part_set _ hp (by omega) h1) (by rw [rd_set_eq _ _ _ (by omega) (by omega), hmn]) (by omega) hb)
      simp only [coins_fewest.l1]
      rw [hdr, if_pos (by simp; omega), if_pos (by omega), if_pos (by simp; omega), if_neg hca, if_pos (by omega), if_pos (by omega), w64 (x := a - c) (by omega) (by omega), if_pos (by omega), if_pos (by omega), hm, e1, w64 (x := (F l (a.toNat - c.toNat) : Int) + 1) (by omega) (by omega), w64 (x := (q : Int) + 1) (by omega) (by omega)]
      rfl
theorem fewest_loop (l : List Int) (hs : Sys l) (am : Int) (h0 : 0 ≤ am) (h2 : am ≤ 1000000) (d : Nat) : ∀ (a : Int) (out : List Int), 1 ≤ a → am + 1 - a ≤ d → Part l am a out → Ev (fun k => coins_fewest.l0 k l am out a) (tabF l am) := by
  induction d with
  | zero =>
    intro a out ha hd hp
    rw [← part_all h0 hp (by omega)]
    refine Ev.step (f := fun _ => some out) (fun k => ?_) (Ev.now _)
    simp only [coins_fewest.l0]
    rw [if_neg (by omega)]
  | succ d ih =>
    intro a out ha hd hp
    by_cases c : a ≤ am
    · have ho := hp.1
      have e1 := hp.2 (a - 1) (by omega) (by omega) (by omega)
      have e2 : (a - 1).toNat = a.toNat - 1 := by omega
      rw [e2] at e1
      have e3 := F_le hs (a.toNat - 1)
      have hlen := hs.1
      have hb := best1_prog (LL l) (LL_pos hs) (LL_pairwise hs) a.toNat (by omega)
      refine Ev.step (fun k => ?_) (fewest_in l hs am a ha c h2 _ (fun out' h => ih (a + 1) out' (by omega) (by omega) h) (l.length - 1) 0 (F l (a.toNat - 1) + 1) (out.set a.toNat ((F l (a.toNat - 1) : Int) + 1)) (by omega) (part_set _ hp (by omega) c) (by rw [rd_set_eq _ _ _ (by omega) (by omega)]; simp) (by omega) (by rw [List.drop_zero]; exact hb))
      simp only [coins_fewest.l0]
      rw [if_pos c, w64 (x := a - 1) (by omega) (by omega), if_pos (by omega), if_pos (by omega), if_pos (by omega), if_pos (by omega), if_pos (by omega), e1, w64 (x := (F l (a.toNat - 1) : Int) + 1) (by omega) (by omega)]
      rfl
    · rw [← part_all h0 hp (by omega)]
      refine Ev.step (f := fun _ => some out) (fun k => ?_) (Ev.now _)
      simp only [coins_fewest.l0]
      rw [if_neg c]
theorem part_start (l : List Int) (am : Int) (h0 : 0 ≤ am) : Part l am 1 (List.replicate (am + 1).toNat 0) := by
  refine ⟨by simp; omega, fun b b0 b1 _ => ?_⟩
  obtain rfl : b = 0 := by omega
  have : rd (List.replicate (am + 1).toNat (0 : Int)) 0 = 0 := by
    unfold rd
    rw [List.getD_eq_getElem?_getD, List.getElem?_replicate]
    split <;> rfl
  rw [this]; rfl
theorem fewest_ev (l : List Int) (hs : Sys l) (am : Int) (h0 : 0 ≤ am) (h2 : am ≤ 1000000) : Ev (fun k => coins_fewest.f k l am) (tabF l am) := by
  refine Ev.congr (fun k => ?_) (fewest_loop l hs am h0 h2 am.toNat 1 _ (Int.le_refl _) (by omega) (part_start l am h0))
  unfold coins_fewest.f
  rw [w64 (by omega) (by omega), if_pos (by omega), if_pos (by omega)]
end Go.Proofs.Ytgbalmjnjpfopaa.L
