/- Coin systems: the least amount for which greed fails, by the program (Pearson) and by the specification (all amounts), and the best change. -/
import Derived.Test.YtgbalmjnjpfopaaLFew
namespace Go.Proofs.Ytgbalmjnjpfopaa.L
open Go.RowKit Go.Proofs.Ytgbalmjnjpfopaa.PC Go.Proofs.YtgbalmjnjpfopaaW.PrintWords Go.Proofs.YtgbalmjnjpfopaaW.PrintLast Go.Proofs.Ytgbalmjnjpfopaa.M

/-- r is the least amount for which greed fails; 0: there is none -/
def Res (l : List Int) (r : Int) : Prop := (∀ x, F l x = g (DD l) x) ∧ r = 0 ∨ ∃ w : Nat, F l w < g (DD l) w ∧ (∀ x, x < w → F l x = g (DD l) x) ∧ r = (w : Int)
theorem res_ex (l : List Int) (hs : Sys l) : ∃ r, Res l r := by
  rcases fail_or (okD hs) (isFew hs) with h | ⟨w, h1, h2⟩
  · exact ⟨0, .inl ⟨h, rfl⟩⟩
  · exact ⟨w, .inr ⟨w, h1, h2, rfl⟩⟩
theorem DD_len (l : List Int) : (DD l).length = l.length := by simp [DD, nats]
theorem DD_at (l : List Int) (q : Nat) (h : q < l.length) : at_ (DD l) q = (rd l ((l.length - 1 - q : Nat) : Int)).toNat := by
  rw [← nats_at (l.length - 1 - q) (by omega)]
  unfold at_ DD
  have hl : (nats l).length = l.length := by simp [nats]
  rw [List.getD_eq_getElem?_getD, List.getD_eq_getElem?_getD, List.getElem?_reverse (by omega), hl]
theorem res_bound {l : List Int} (hs : Sys l) {w : Nat} (h1 : F l w < g (DD l) w) (h2 : ∀ x, x < w → F l x = g (DD l) x) : (w : Int) < 2 * rd l ((l.length : Int) - 1) := by
  obtain ⟨p, j, p1, p2, p3, p4, _, _⟩ := pearson (okD hs) (isFew hs) h2 h1
  have hl := hs.1
  rw [DD_len] at p3
  have e1 := (okD hs).le 0 (p - 1) (by omega) (by rw [DD_len]; omega)
  have e2 := (okD hs).lt 0 p (by omega) (by rw [DD_len]; omega)
  have e3 := DD_at l 0 hl
  rw [show ((l.length - 1 - 0 : Nat) : Int) = (l.length : Int) - 1 from by omega] at e3
  have := (sys_rd hs (l.length - 1) (by omega)).1
  rw [show ((l.length - 1 : Nat) : Int) = (l.length : Int) - 1 from by omega] at this
  omega

theorem greedy_sum_ev (l : List Int) (hs : Sys l) (a : Int) (h0 : 0 ≤ a) (h1 : a ≤ 1000000) {β : Type} (f : Nat → Int → Option β) (r : β) (h : Ev (fun k => f k (g (DD l) a.toNat : Int)) r) :
    Ev (fun k => (coins_greedy.f k l a).bind fun t => (coins_sum.f k t).bind fun s => f k s) r := by
  have hv : ∀ v ∈ l, 1 ≤ v := fun v hv => (hs.range v hv).1
  have hlen := hs.2.1
  have e := gl_sum l hs a h0
  have hg := g_le (DD l) (okD hs) a.toNat
  refine Ev.bind (greedy_ev l a (by omega) (fun v hv => by have := hs.range v hv; omega) h0 (by omega)) (Ev.bind (sum_ev _ (by rw [coins_greedy.gl_len]; omega) (fun x hx => (gl_nonneg l hv a h0 x hx).1) (by rw [e]; omega)) ?_)
  rw [e]; exact h
/-! ### the program: Pearson's candidates -/
/-- the worth of a change -/
def valI : List Int → List Int → Int
  | c :: cs, n :: ns => n * c + valI cs ns
  | _, _ => 0
theorem valI_nat (l v : List Int) (hl : ∀ x ∈ l, 0 ≤ x) (hv : ∀ x ∈ v, 0 ≤ x) : valI l v = (val (nats l) (nats v) : Int) := by
  induction l generalizing v with
  | nil => cases v <;> rfl
  | cons c cs ih =>
    cases v with
    | nil => rfl
    | cons n ns =>
      have h1 := ih ns (fun x hx => hl x (List.mem_cons_of_mem _ hx)) (fun x hx => hv x (List.mem_cons_of_mem _ hx))
      have h2 := hl c List.mem_cons_self
      have h3 := hv n List.mem_cons_self
      simp only [valI, nats, List.map_cons, val] at h1 ⊢
      rw [h1, Int.natCast_add, Int.natCast_mul, Int.toNat_of_nonneg h2, Int.toNat_of_nonneg h3]
theorem valI_drop (l v : List Int) (k : Nat) (h : k < l.length) (h' : k < v.length) : valI (l.drop k) (v.drop k) = rd v (k : Int) * rd l (k : Int) + valI (l.drop (k + 1)) (v.drop (k + 1)) := by
  rw [List.drop_eq_getElem_cons h, List.drop_eq_getElem_cons h']
  simp only [valI]
  simp [rd, List.getD_eq_getElem?_getD, h, h']
theorem valI_nonneg (l v : List Int) (hl : ∀ x ∈ l, 0 ≤ x) (hv : ∀ x ∈ v, 0 ≤ x) : 0 ≤ valI l v := by rw [valI_nat l v hl hv]; omega

/-- what a candidate does to the least amount so far -/
def upd (l : List Int) (m : Int) (c : Int × Int) : Int := if (g (DD l) c.1.toNat : Int) > c.2 then (if m = 0 then c.1 else if c.1 < m then c.1 else m) else m
/-- the candidates of coin number i, cut behind the coins below j -/
def candsJ (l gv : List Int) : Nat → List (Int × Int)
  | 0 => []
  | j + 1 => (rd l (j : Int) + valI (l.drop j) (gv.drop j), 1 + (gv.drop j).sum) :: candsJ l gv j
def gvOf (l : List Int) (i : Nat) : List Int := (coins_greedy.gl l (rd l (i : Int) - 1)).1
def candsI (l : List Int) : Nat → List (Int × Int)
  | 0 => []
  | i + 1 => candsJ l (gvOf l (i + 1)) (i + 1) ++ candsI l i

theorem G_zero (D : List Nat) (b s : Nat) (h : ∀ r, r ≤ s → b < at_ D r) : at_ (G D b) s = 0 := by
  induction D generalizing b s with
  | nil => simp [G, at_]
  | cons c cs ih =>
    have h0 := h 0 (by omega)
    rw [at_zero] at h0
    simp only [G]
    cases s with
    | zero => rw [at_zero]; exact Nat.div_eq_of_lt h0
    | succ s =>
      rw [at_succ, Nat.mod_eq_of_lt h0]
      exact ih b s (fun r hr => by have := h (r + 1) (by omega); rwa [at_succ] at this)
structure GvOk (l : List Int) (i : Nat) (gv : List Int) : Prop where
  len : gv.length = l.length
  nonneg : ∀ x ∈ gv, 0 ≤ x
  zero : ∀ t : Nat, i ≤ t → rd gv (t : Int) = 0
  total : valI l gv = rd l (i : Int) - 1
theorem nats_len (l : List Int) : (nats l).length = l.length := by simp [nats]
theorem rd_nat_at (v : List Int) (t : Nat) (h : ∀ x ∈ v, 0 ≤ x) : rd v (t : Int) = (at_ (nats v) t : Int) := by
  by_cases ht : t < v.length
  · rw [nats_at t ht]
    have := h (rd v (t : Int)) (by simp [rd, List.getD_eq_getElem?_getD, ht])
    omega
  · unfold rd at_ nats
    rw [Int.toNat_natCast, List.getD_eq_getElem?_getD, List.getD_eq_getElem?_getD, List.getElem?_eq_none (by omega), List.getElem?_eq_none (by simp; omega)]
    rfl
theorem val_append (D E v u : List Nat) (h : v.length = D.length) : val (D ++ E) (v ++ u) = val D v + val E u := by
  induction D generalizing v with
  | nil => cases v <;> simp_all [val]
  | cons c cs ih =>
    cases v with
    | nil => simp at h
    | cons n ns => simp only [List.cons_append, val]; rw [ih ns (by simpa using h)]; omega
theorem val_reverse (D v : List Nat) (h : v.length = D.length) : val D.reverse v.reverse = val D v := by
  induction D generalizing v with
  | nil => cases v <;> simp_all [val]
  | cons c cs ih =>
    cases v with
    | nil => simp at h
    | cons n ns =>
      simp only [List.reverse_cons]
      rw [val_append _ _ _ _ (by simpa using h), ih ns (by simpa using h)]
      simp [val]; omega
theorem gv_ok (l : List Int) (hs : Sys l) (i : Nat) (hi : i < l.length) : GvOk l i (gvOf l i) := by
  have hv : ∀ v ∈ l, 1 ≤ v := fun v hv => (hs.range v hv).1
  have hc := sys_rd hs i hi
  have h0 : 0 ≤ rd l (i : Int) - 1 := by omega
  have hn := gl_nonneg l hv _ h0
  have hnat := (gl_nat l hv _ h0).1
  refine ⟨by unfold gvOf; rw [coins_greedy.gl_len], fun x hx => (hn x hx).1, fun t ht => ?_, ?_⟩
  · unfold gvOf
    rw [rd_nat_at _ t (fun x hx => (hn x hx).1), hnat]
    rcases Nat.lt_or_ge t l.length with htl | htl
    · have e : at_ (G (DD l) (rd l (i : Int) - 1).toNat).reverse t = at_ (G (DD l) (rd l (i : Int) - 1).toNat) (l.length - 1 - t) := by
        unfold at_
        rw [List.getD_eq_getElem?_getD, List.getD_eq_getElem?_getD, List.getElem?_reverse (by rw [G_len, DD_len]; exact htl), G_len, DD_len]
      rw [e, G_zero _ _ _ (fun r hr => ?_)]
      · rfl
      · rw [DD_at l r (by omega)]
        have := (okD hs).le r (l.length - 1 - i) (by omega) (by rw [DD_len]; omega)
        rw [DD_at l r (by omega), DD_at l (l.length - 1 - i) (by omega), show l.length - 1 - (l.length - 1 - i) = i from by omega] at this
        omega
    · unfold at_
      rw [List.getD_eq_getElem?_getD, List.getElem?_eq_none (by rw [List.length_reverse, G_len, DD_len]; exact htl)]
      rfl
  · unfold gvOf
    rw [valI_nat _ _ (fun x hx => by have := hv x hx; omega) (fun x hx => (hn x hx).1), hnat]
    have h1 := val_reverse (DD l) (G (DD l) (rd l (i : Int) - 1).toNat) (by rw [G_len])
    rw [val_G (okD hs), show (DD l).reverse = nats l from by simp [DD]] at h1
    rw [h1]; omega
theorem valI_tail_le (l gv : List Int) (hl : ∀ x ∈ l, 0 ≤ x) (hn : ∀ x ∈ gv, 0 ≤ x) (hlen : gv.length = l.length) (k : Nat) (hk : k ≤ l.length) : valI (l.drop k) (gv.drop k) ≤ valI l gv := by
  induction k with
  | zero => simp
  | succ k ih =>
    have h1 := ih (by omega)
    rw [valI_drop l gv k (by omega) (by omega)] at h1
    have h2 := Int.mul_nonneg (hn (rd gv (k : Int)) (by simp [rd, List.getD_eq_getElem?_getD, show k < gv.length by omega])) (hl (rd l (k : Int)) (by simp [rd, List.getD_eq_getElem?_getD, show k < l.length by omega]))
    omega
theorem sum_le_valI (l gv : List Int) (hl : ∀ x ∈ l, 1 ≤ x) (hn : ∀ x ∈ gv, 0 ≤ x) (hlen : gv.length = l.length) : gv.sum ≤ valI l gv := by
  induction l generalizing gv with
  | nil => cases gv <;> simp_all [valI]
  | cons c cs ih =>
    cases gv with
    | nil => simp at hlen
    | cons n ns =>
      have h1 := ih ns (fun x hx => hl x (List.mem_cons_of_mem _ hx)) (fun x hx => hn x (List.mem_cons_of_mem _ hx)) (by simpa using hlen)
      have h2 : n * 1 ≤ n * c := Int.mul_le_mul_of_nonneg_left (hl c List.mem_cons_self) (hn n List.mem_cons_self)
      simp only [valI, List.sum_cons]; omega
/-- behind coin i nothing is taken -/
theorem gv_tail {l : List Int} {i : Nat} {gv : List Int} (h : GvOk l i gv) (hil : i ≤ l.length) : valI (l.drop i) (gv.drop i) = 0 ∧ (gv.drop i).sum = 0 := by
  have hz : gv.drop i = List.replicate (gv.length - i) 0 := by
    apply List.ext_getElem
    · simp
    · intro t a b
      have := h.zero (i + t) (by omega)
      simp at a
      simp only [List.getElem_drop, List.getElem_replicate]
      unfold rd at this
      rw [Int.toNat_natCast, List.getD_eq_getElem?_getD, List.getElem?_eq_getElem (by omega)] at this
      exact this
  rw [hz]
  constructor
  · have : ∀ (E : List Int) (n : Nat), valI E (List.replicate n 0) = 0 := by
      intro E
      induction E with
      | nil => intro n; cases n <;> rfl
      | cons c cs ih =>
        intro n
        cases n with
        | zero => rfl
        | succ n => simp only [List.replicate_succ, valI, ih n]; omega
    exact this _ _
  · have : ∀ n : Nat, (List.replicate n (0 : Int)).sum = 0 := by
      intro n
      induction n with
      | zero => rfl
      | succ n ih => simp [List.replicate_succ, ih]
    exact this _

theorem fails_l2 (l : List Int) (hs : Sys l) (m : Int) (i j : Nat) (hi : i < l.length) (hj : j < i) (gv : List Int) (hgv : GvOk l i gv) (r : Int)
    (next : Ev (fun k => coins_fails.l1 k l (upd l m (rd l (j : Int) + valI (l.drop j) (gv.drop j), 1 + (gv.drop j).sum)) (i : Int) gv ((j : Int) - 1)) r) (d : Nat) :
    ∀ (q : Nat) (amt co : Int), q + d = i → j ≤ q → 0 ≤ amt → 0 ≤ co → amt + valI (l.drop q) (gv.drop q) = rd l (j : Int) + valI (l.drop j) (gv.drop j) → co + (gv.drop q).sum = 1 + (gv.drop j).sum →
    Ev (fun k => coins_fails.l2 k l m (i : Int) gv (j : Int) amt co (q : Int)) r := by
  have hlen := hs.2.1
  have hci := sys_rd hs i hi
  have hcj := sys_rd hs j (by omega)
  have hl0 : ∀ x ∈ l, 0 ≤ x := fun x hx => by have := hs.range x hx; omega
  have hl1 : ∀ x ∈ l, 1 ≤ x := fun x hx => (hs.range x hx).1
  have htl := valI_tail_le l gv hl0 hgv.nonneg hgv.len j (by omega)
  rw [hgv.total] at htl
  have hnn : ∀ q, 0 ≤ valI (l.drop q) (gv.drop q) := fun q => valI_nonneg _ _ (fun x hx => hl0 x (List.mem_of_mem_drop hx)) (fun x hx => hgv.nonneg x (List.mem_of_mem_drop hx))
  have hsn : ∀ q, 0 ≤ (gv.drop q).sum := fun q => sum_nonneg _ (fun x hx => hgv.nonneg x (List.mem_of_mem_drop hx))
  have hsl : (gv.drop j).sum ≤ valI (l.drop j) (gv.drop j) := sum_le_valI _ _ (fun x hx => hl1 x (List.mem_of_mem_drop hx)) (fun x hx => hgv.nonneg x (List.mem_of_mem_drop hx)) (by simp [hgv.len])
  induction d with
  | zero =>
    intro q amt co hq hjq a0 c0 ha hc
    obtain rfl : q = i := by omega
    obtain ⟨t1, t2⟩ := gv_tail hgv (by omega)
    rw [t1] at ha
    rw [t2] at hc
    have h1 := hnn j
    refine Ev.step (f := fun k => (coins_greedy.f k l amt).bind fun t137 => ((coins_sum.f k t137).bind fun t140 => (if t140 > co then (if m = 0 then (coins_fails.l1 k l amt (q : Int) gv ((j : Int) - 1)) else (if amt < m then (coins_fails.l1 k l amt (q : Int) gv ((j : Int) - 1)) else (coins_fails.l1 k l m (q : Int) gv ((j : Int) - 1)))) else (coins_fails.l1 k l m (q : Int) gv ((j : Int) - 1))))) (fun k => ?_) ?_
    · simp only [coins_fails.l2]
      rw [if_neg (by omega), w64 (x := (j : Int) - 1) (by omega) (by omega)]
    · refine greedy_sum_ev l hs amt a0 (by omega) _ r ?_
      refine Ev.congr (fun k => ?_) next
      rw [← ha, ← hc]
      unfold upd
      simp only [Int.add_zero]
      by_cases e1 : (g (DD l) amt.toNat : Int) > co
      · rw [if_pos e1, if_pos e1]
        by_cases e2 : m = 0
        · rw [if_pos e2, if_pos e2]
        · rw [if_neg e2, if_neg e2]
          by_cases e3 : amt < m
          · rw [if_pos e3, if_pos e3]
          · rw [if_neg e3, if_neg e3]
      · rw [if_neg e1, if_neg e1]
  | succ d ih =>
    intro q amt co hq hjq a0 c0 ha hc
    have hql : q < l.length := by omega
    have hqg : q < gv.length := by rw [hgv.len]; exact hql
    have e1 := valI_drop l gv q hql hqg
    have e2 := sum_drop gv q hqg
    have n1 := hgv.nonneg (rd gv (q : Int)) (by simp [rd, List.getD_eq_getElem?_getD, hqg])
    have n2 := sys_rd hs q hql
    have n3 := Int.mul_nonneg n1 (show 0 ≤ rd l (q : Int) by omega)
    have n4 := hnn (q + 1)
    have n5 := hsn (q + 1)
    refine Ev.step (fun k => ?_) (ih (q + 1) (amt + rd gv (q : Int) * rd l (q : Int)) (co + rd gv (q : Int)) (by omega) (by omega) (by omega) (by omega) (by omega) (by omega))
    simp only [coins_fails.l2]
    rw [if_pos (by omega), if_pos (by omega), if_pos (by omega), if_pos (by omega), w64 (x := rd gv (q : Int) * rd l (q : Int)) (by omega) (by omega), w64 (x := amt + rd gv (q : Int) * rd l (q : Int)) (by omega) (by omega), w64 (x := co + rd gv (q : Int)) (by omega) (by omega), w64 (x := (q : Int) + 1) (by omega) (by omega)]
    rfl
theorem fails_l1 (l : List Int) (hs : Sys l) (i : Nat) (hi : i < l.length) (gv : List Int) (hgv : GvOk l i gv) (r : Int) (j : Nat) : ∀ m : Int, j ≤ i →
    Ev (fun k => coins_fails.l0 k l ((candsJ l gv j).foldl (upd l) m) ((i : Int) - 1)) r → Ev (fun k => coins_fails.l1 k l m (i : Int) gv ((j : Int) - 1)) r := by
  have hlen := hs.2.1
  induction j with
  | zero =>
    intro m _ h
    refine Ev.step (fun k => ?_) h
    simp only [coins_fails.l1]
    rw [if_neg (by omega), w64 (by omega) (by omega)]
    rfl
  | succ j ih =>
    intro m hj h
    have hcj := sys_rd hs j (by omega)
    have e : ((j + 1 : Nat) : Int) - 1 = (j : Int) := by omega
    rw [e]
    refine Ev.step (f := fun k => coins_fails.l2 k l m (i : Int) gv (j : Int) (rd l (j : Int)) 1 (j : Int)) (fun k => ?_) ?_
    · simp only [coins_fails.l1]
      rw [if_pos (by omega), if_pos (by omega), if_pos (by omega)]
    · exact fails_l2 l hs m i j hi (by omega) gv hgv r (ih _ (by omega) h) (i - j) j _ _ (by omega) (Nat.le_refl _) (by omega) (by omega) rfl rfl
theorem fails_l0 (l : List Int) (hs : Sys l) (i : Nat) : ∀ m : Int, i < l.length → Ev (fun k => coins_fails.l0 k l m (i : Int)) ((candsI l i).foldl (upd l) m) := by
  have hlen := hs.2.1
  induction i with
  | zero =>
    intro m _
    refine Ev.step (f := fun _ => some m) (fun k => ?_) (Ev.now _)
    simp only [coins_fails.l0]
    rw [if_neg (by omega)]
  | succ i ih =>
    intro m hi
    have hci := sys_rd hs (i + 1) hi
    refine Ev.step (f := fun k => (coins_greedy.f k l (rd l ((i + 1 : Nat) : Int) - 1)).bind fun t130 => coins_fails.l1 k l m ((i + 1 : Nat) : Int) t130 (((i + 1 : Nat) : Int) - 1)) (fun k => ?_) ?_
    · simp only [coins_fails.l0]
      rw [if_pos (by omega), if_pos (by omega), if_pos (by omega), w64 (x := rd l ((i + 1 : Nat) : Int) - 1) (by omega) (by omega), w64 (x := ((i + 1 : Nat) : Int) - 1) (by omega) (by omega)]
    · refine Ev.bind (greedy_ev l _ (by omega) (fun v hv => by have := hs.range v hv; omega) (by omega) (by omega)) ?_
      refine fails_l1 l hs (i + 1) hi (gvOf l (i + 1)) (gv_ok l hs (i + 1) hi) _ (i + 1) m (Nat.le_refl _) ?_
      rw [show ((i + 1 : Nat) : Int) - 1 = (i : Int) from by omega]
      simp only [candsI, List.foldl_append]
      exact ih _ (by omega)

/-- every candidate is a change of its amount -/
theorem cands_rep (l : List Int) (hs : Sys l) (i : Nat) (hi : i < l.length) : ∀ c ∈ candsI l i, 0 < c.1 ∧ (F l c.1.toNat : Int) ≤ c.2 := by
  have hl0 : ∀ x ∈ l, 0 ≤ x := fun x hx => by have := hs.range x hx; omega
  have one : ∀ (gv : List Int) (i : Nat), GvOk l i gv → ∀ j, j ≤ i → i < l.length → ∀ c ∈ candsJ l gv j, 0 < c.1 ∧ (F l c.1.toNat : Int) ≤ c.2 := by
    intro gv i hgv j
    induction j with
    | zero => intro _ _ c hc; simp [candsJ] at hc
    | succ j ih =>
      intro hj hi c hc
      simp only [candsJ, List.mem_cons] at hc
      rcases hc with rfl | hc
      · have hcj := sys_rd hs j (by omega)
        have hd : ∀ x ∈ gv.drop j, 0 ≤ x := fun x hx => hgv.nonneg x (List.mem_of_mem_drop hx)
        have hd' : ∀ x ∈ l.drop j, 0 ≤ x := fun x hx => hl0 x (List.mem_of_mem_drop hx)
        have e1 := valI_nat (l.drop j) (gv.drop j) hd' hd
        have e2 := nats_sum (gv.drop j) hd
        have n1 := valI_nonneg _ _ hd' hd
        have hmem : ∀ c ∈ nats (l.drop j), c ∈ DD l := by
          intro c hc
          simp only [nats, List.mem_map] at hc
          obtain ⟨x, hx, rfl⟩ := hc
          simp only [DD, nats, List.mem_reverse, List.mem_map]
          exact ⟨x, List.mem_of_mem_drop hx, rfl⟩
        have h1 := (isFew hs).rep0 (nats (l.drop j)) (nats (gv.drop j)) hmem
        have h2 := (isFew hs).add (c := (rd l (j : Int)).toNat) (by rw [← nats_at j (by omega)]; unfold DD; rw [List.mem_reverse]; exact at_mem (by rw [nats_len]; omega)) 1 (val (nats (l.drop j)) (nats (gv.drop j)))
        simp only
        refine ⟨by omega, ?_⟩
        rw [show (rd l (j : Int) + valI (l.drop j) (gv.drop j)).toNat = val (nats (l.drop j)) (nats (gv.drop j)) + 1 * (rd l (j : Int)).toNat from by omega]
        omega
      · exact ih (by omega) hi c hc
  induction i with
  | zero => intro c hc; simp [candsI] at hc
  | succ i ih =>
    intro c hc
    simp only [candsI, List.mem_append] at hc
    rcases hc with hc | hc
    · exact one (gvOf l (i + 1)) (i + 1) (gv_ok l hs (i + 1) hi) (i + 1) (Nat.le_refl _) hi c hc
    · exact ih (by omega) c hc
theorem candsJ_mem (l gv : List Int) (j n : Nat) (h : j < n) : (rd l (j : Int) + valI (l.drop j) (gv.drop j), 1 + (gv.drop j).sum) ∈ candsJ l gv n := by
  induction n with
  | zero => omega
  | succ n ih =>
    simp only [candsJ, List.mem_cons]
    by_cases e : j = n
    · subst e; exact .inl rfl
    · exact .inr (ih (by omega))
theorem candsI_mem (l : List Int) (i n : Nat) (h0 : 1 ≤ i) (h : i ≤ n) (c : Int × Int) (hc : c ∈ candsJ l (gvOf l i) i) : c ∈ candsI l n := by
  induction n with
  | zero => omega
  | succ n ih =>
    simp only [candsI, List.mem_append]
    by_cases e : i = n + 1
    · subst e; exact .inl hc
    · exact .inr (ih (by omega))
/-- Pearson's theorem, in the program's words -/
theorem cands_hit (l : List Int) (hs : Sys l) (w : Nat) (h1 : F l w < g (DD l) w) (h2 : ∀ x, x < w → F l x = g (DD l) x) : ((w : Int), (F l w : Int)) ∈ candsI l (l.length - 1) := by
  have hl := hs.1
  have hv : ∀ v ∈ l, 1 ≤ v := fun v hv => (hs.range v hv).1
  obtain ⟨p, J, p1, p2, p3, _, p5, p6⟩ := pearson (okD hs) (isFew hs) h2 h1
  have hDl := DD_len l
  rw [hDl] at p3 p5 p6
  have ei : at_ (DD l) (p - 1) = (rd l ((l.length - p : Nat) : Int)).toNat := by
    rw [DD_at l (p - 1) (by omega), show l.length - 1 - (p - 1) = l.length - p from by omega]
  have ej : at_ (DD l) J = (rd l ((l.length - 1 - J : Nat) : Int)).toNat := DD_at l J p3
  have hci := sys_rd hs (l.length - p) (by omega)
  have hcj := sys_rd hs (l.length - 1 - J) (by omega)
  have hgv := gv_ok l hs (l.length - p) (by omega)
  have hb : at_ (DD l) (p - 1) - 1 = (rd l ((l.length - p : Nat) : Int) - 1).toNat := by omega
  have hnat : nats (gvOf l (l.length - p)) = (G (DD l) (at_ (DD l) (p - 1) - 1)).reverse := by
    rw [hb]; exact (gl_nat l hv _ (by omega)).1
  have hd : ∀ x ∈ (gvOf l (l.length - p)).drop (l.length - 1 - J), 0 ≤ x := fun x hx => hgv.nonneg x (List.mem_of_mem_drop hx)
  have hd' : ∀ x ∈ l.drop (l.length - 1 - J), 0 ≤ x := fun x hx => by have := hv x (List.mem_of_mem_drop hx); omega
  have nd : ∀ (v : List Int) (k : Nat), nats (v.drop k) = (nats v).drop k := fun v k => by simp [nats, List.map_drop]
  have glen : (G (DD l) (at_ (DD l) (p - 1) - 1)).length = l.length := by rw [G_len, hDl]
  have dr : (nats (gvOf l (l.length - p))).drop (l.length - 1 - J) = ((G (DD l) (at_ (DD l) (p - 1) - 1)).take (J + 1)).reverse := by
    rw [hnat, List.drop_reverse, glen, show l.length - (l.length - 1 - J) = J + 1 from by omega]
  have dl : (nats l).drop (l.length - 1 - J) = ((DD l).take (J + 1)).reverse := by
    have : nats l = (DD l).reverse := by simp [DD]
    rw [this, List.drop_reverse, hDl, show l.length - (l.length - 1 - J) = J + 1 from by omega]
  have e1 := valI_nat (l.drop (l.length - 1 - J)) ((gvOf l (l.length - p)).drop (l.length - 1 - J)) hd' hd
  rw [nd, nd, dr, dl, val_reverse _ _ (by simp; omega)] at e1
  have e2 := nats_sum ((gvOf l (l.length - p)).drop (l.length - 1 - J)) hd
  rw [nd, dr, List.sum_reverse] at e2
  have hz : ∀ (E : List Nat) (n : Nat), val E (List.replicate n 0) = 0 := by
    intro E
    induction E with
    | nil => intro n; cases n <;> rfl
    | cons c cs ih =>
      intro n
      cases n with
      | zero => rfl
      | succ n => simp only [List.replicate_succ, val, ih n]; omega
  have e3 : val (DD l) ((G (DD l) (at_ (DD l) (p - 1) - 1)).take (J + 1) ++ List.replicate (l.length - (J + 1)) 0) = val ((DD l).take (J + 1)) ((G (DD l) (at_ (DD l) (p - 1) - 1)).take (J + 1)) := by
    have h3 := val_append ((DD l).take (J + 1)) ((DD l).drop (J + 1)) ((G (DD l) (at_ (DD l) (p - 1) - 1)).take (J + 1)) (List.replicate (l.length - (J + 1)) 0) (by simp; omega)
    rw [List.take_append_drop, hz, Nat.add_zero] at h3
    exact h3
  have e4 : ((G (DD l) (at_ (DD l) (p - 1) - 1)).take (J + 1) ++ List.replicate (l.length - (J + 1)) 0).sum = ((G (DD l) (at_ (DD l) (p - 1) - 1)).take (J + 1)).sum := by
    rw [List.sum_append]; simp
  rw [e3] at p5
  rw [e4] at p6
  have hc := candsJ_mem l (gvOf l (l.length - p)) (l.length - 1 - J) (l.length - p) (by omega)
  have hm := candsI_mem l (l.length - p) (l.length - 1) (by omega) (by omega) _ hc
  have q1 : rd l ((l.length - 1 - J : Nat) : Int) + valI (l.drop (l.length - 1 - J)) ((gvOf l (l.length - p)).drop (l.length - 1 - J)) = (w : Int) := by omega
  have q2 : 1 + ((gvOf l (l.length - p)).drop (l.length - 1 - J)).sum = (F l w : Int) := by omega
  rw [q1, q2] at hm
  exact hm
theorem fails_ev (l : List Int) (hs : Sys l) (r : Int) (hr : Res l r) : Ev (fun k => coins_fails.f k l) r := by
  have hl := hs.1
  have hlen := hs.2.1
  have h := fails_l0 l hs (l.length - 1) 0 (by omega)
  have hrep := cands_rep l hs (l.length - 1) (by omega)
  have key : (candsI l (l.length - 1)).foldl (upd l) 0 = r := by
    rcases hr with ⟨h1, rfl⟩ | ⟨w, h1, h2, rfl⟩
    · have : ∀ cs : List (Int × Int), (∀ c ∈ cs, 0 < c.1 ∧ (F l c.1.toNat : Int) ≤ c.2) → cs.foldl (upd l) 0 = 0 := by
        intro cs
        induction cs with
        | nil => intro _; rfl
        | cons c cs ih =>
          intro hc
          have hc1 := hc c List.mem_cons_self
          rw [h1] at hc1
          rw [List.foldl_cons, show upd l 0 c = 0 from by unfold upd; rw [if_neg (by omega)]]
          exact ih (fun d hd => hc d (List.mem_cons_of_mem _ hd))
      exact this _ hrep
    · have hit := cands_hit l hs w h1 h2
      have hw0 : 0 < w := by
        rcases Nat.eq_zero_or_pos w with rfl | h
        · have := g_le (DD l) (okD hs) 0; omega
        · exact h
      -- what fails is no less than w
      have low : ∀ c : Int × Int, (0 < c.1 ∧ (F l c.1.toNat : Int) ≤ c.2) → (g (DD l) c.1.toNat : Int) > c.2 → (w : Int) ≤ c.1 := by
        intro c hc hg
        refine Int.not_lt.1 fun hlt => ?_
        have := h2 c.1.toNat (by omega)
        omega
      have stay : ∀ cs : List (Int × Int), (∀ c ∈ cs, 0 < c.1 ∧ (F l c.1.toNat : Int) ≤ c.2) → cs.foldl (upd l) (w : Int) = w := by
        intro cs
        induction cs with
        | nil => intro _; rfl
        | cons c cs ih =>
          intro hc
          have e : upd l (w : Int) c = w := by
            unfold upd
            by_cases hg : (g (DD l) c.1.toNat : Int) > c.2
            · have := low c (hc c List.mem_cons_self) hg
              rw [if_pos hg, if_neg (by omega), if_neg (by omega)]
            · rw [if_neg hg]
          rw [List.foldl_cons, e]
          exact ih (fun d hd => hc d (List.mem_cons_of_mem _ hd))
      have go : ∀ (cs : List (Int × Int)) (m : Int), (∀ c ∈ cs, 0 < c.1 ∧ (F l c.1.toNat : Int) ≤ c.2) → (m = 0 ∨ (w : Int) ≤ m) → ((w : Int), (F l w : Int)) ∈ cs → cs.foldl (upd l) m = w := by
        intro cs
        induction cs with
        | nil => intro m _ _ h; simp at h
        | cons c cs ih =>
          intro m hc hm hmem
          have hcs : ∀ d ∈ cs, 0 < d.1 ∧ (F l d.1.toNat : Int) ≤ d.2 := fun d hd => hc d (List.mem_cons_of_mem _ hd)
          rw [List.foldl_cons]
          by_cases e : c = ((w : Int), (F l w : Int))
          · subst e
            have : upd l m ((w : Int), (F l w : Int)) = w := by
              unfold upd
              simp only [Int.toNat_natCast]
              rw [if_pos (by omega)]
              rcases hm with rfl | hm
              · rw [if_pos rfl]
              · rw [if_neg (by omega)]
                by_cases e2 : (w : Int) < m
                · rw [if_pos e2]
                · rw [if_neg e2]; omega
            rw [this]; exact stay cs hcs
          · refine ih _ hcs ?_ ?_
            · unfold upd
              by_cases hg : (g (DD l) c.1.toNat : Int) > c.2
              · have := low c (hc c List.mem_cons_self) hg
                rw [if_pos hg]
                by_cases e2 : m = 0
                · rw [if_pos e2]; omega
                · rw [if_neg e2]
                  by_cases e3 : c.1 < m
                  · rw [if_pos e3]; omega
                  · rw [if_neg e3]; exact hm
              · rw [if_neg hg]; exact hm
            · rcases List.mem_cons.1 hmem with h | h
              · exact absurd h.symm e
              · exact h
      exact go _ 0 hrep (.inl rfl) hit
  rw [key] at h
  refine Ev.congr (fun k => ?_) h
  unfold coins_fails.f
  rw [w64 (by omega) (by omega), show ((l.length - 1 : Nat) : Int) = (l.length : Int) - 1 from by omega]

/-! ### what Fails returns -/
theorem res_nonneg {l : List Int} {r : Int} (hs : Sys l) (hr : Res l r) : 0 ≤ r ∧ (r = 0 ↔ ∀ x, F l x = g (DD l) x) := by
  rcases hr with ⟨h1, rfl⟩ | ⟨w, h1, h2, rfl⟩
  · exact ⟨Int.le_refl _, fun _ => h1, fun _ => rfl⟩
  · refine ⟨by omega, fun h => ?_, fun h => by have := h w; omega⟩
    have : w = 0 := by omega
    subst this
    have := g_le (DD l) (okD hs) 0
    omega
theorem Fails_ev (l : List Int) (hs : Sys l) (r : Int) (hr : Res l r) : Ev (fun k => coins_Fails.f k l) (if r > 0 then (r, 0) else (0, 10)) := by
  refine Ev.bind ((valid_ev l).1 hs) ?_
  simp only [if_true]
  refine Ev.bind (fails_ev l hs r hr) ?_
  split
  · exact Ev.now _
  · exact Ev.now _
theorem Fails_bad (l : List Int) (hs : ¬ Sys l) : Ev (fun k => coins_Fails.f k l) (0, 2) := Ev.bind ((valid_ev l).2 hs) (Ev.now _)
end Go.Proofs.Ytgbalmjnjpfopaa.L
