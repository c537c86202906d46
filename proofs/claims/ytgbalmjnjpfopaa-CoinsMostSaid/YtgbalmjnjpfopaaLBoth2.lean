/- Coin systems: Both: the two queues side by side. -/
import Derived.Test.YtgbalmjnjpfopaaLBoth
namespace Go.Proofs.Ytgbalmjnjpfopaa.L
open Go.RowKit Go.Proofs.Ytgbalmjnjpfopaa.PC Go.Proofs.YtgbalmjnjpfopaaW.PrintWords Go.Proofs.YtgbalmjnjpfopaaW.PrintLast Go.Proofs.YtgbalmjnjpfopaaW.PrintMore

/-- the specification's table: one more -/
def D1 (d : List Int) : List Int := d.map (· + 1)
theorem D1_len (d : List Int) : (D1 d).length = d.length := by simp [D1]
theorem rd_D1 (d : List Int) (j : Int) (h0 : 0 ≤ j) (h1 : j < d.length) : rd (D1 d) j = rd d j + 1 := by
  have h : j.toNat < d.length := by omega
  simp [rd, D1, List.getD_eq_getElem?_getD, h]
theorem D1_set (d : List Int) (i : Nat) (v : Int) : (D1 d).set i (v + 1) = D1 (d.set i v) := by simp [D1, List.map_set]
theorem r_l2 (l : List Int) (am m x v : Int) (vi i : Int) (n c : Int) (hn : n ≤ 1000000) (s : St) (h : Inv n c x s) (dn : List Int) (hdn : (dn.length : Int) = c) (hi0 : 0 ≤ vi) (hi1 : vi < l.length) (hv : rd l vi = v) (hv1 : 1 ≤ v) (hv2 : v ≤ 1000000) (sg j : Int) (hsg : sg = -1 ∧ j = x - v ∨ sg = 1 ∧ j = x + v) (r : Int × Int)
    (k : Ev (fun k => pomaderef05_Both.l2 k l am m n (D1 (vis x s j).1) (dn ++ (vis x s j).2) i x vi (sg + 2)) r) :
    Ev (fun k => pomaderef05_Both.l2 k l am m n (D1 s.1) (dn ++ s.2) i x vi sg) r := by
  have hx0 := h.x0
  have hx1 := h.x1
  have hlen := h.len
  have hcnt := h.cnt
  have hxh := h.hi _ (rd_in' s.1 x h.x0 (by omega))
  have hxv := h.xv
  have hw2 : wrap64 (sg + 2) = sg + 2 := w64 (by omega) (by omega)
  have hj : wrap64 (x + wrap64 (sg * v)) = j := by
    rcases hsg with ⟨rfl, rfl⟩ | ⟨rfl, rfl⟩
    · rw [w64 (x := -1 * v) (by omega) (by omega), w64 (by omega) (by omega)]; omega
    · rw [w64 (x := 1 * v) (by omega) (by omega), w64 (by omega) (by omega)]; omega
  have hdl : ((D1 s.1).length : Int) = n := by rw [D1_len]; exact hlen
  refine Ev.step (fun k => ?_) k
  simp only [pomaderef05_Both.l2]
  rw [if_pos (by omega), if_pos hi0, if_pos hi1, hv, hj]
  unfold vis
  by_cases c1 : 0 ≤ j
  · rw [if_pos c1]
    by_cases c2 : j < n
    · have e1 := rd_D1 s.1 j c1 (by omega)
      have hlo := h.lo _ (rd_in' s.1 j c1 (by omega))
      have e2 := rd_D1 s.1 x hx0 (by omega)
      have hw : wrap64 (rd (D1 s.1) x + 1) = rd s.1 x + 1 + 1 := by rw [e2]; exact w64 (by omega) (by omega)
      rw [if_pos c2, if_pos c1, if_pos (by omega)]
      by_cases c3 : rd s.1 j < 0
      · rw [if_pos (by omega), if_pos hx0, if_pos (by omega), if_pos (by rw [List.length_append]; omega), if_pos ⟨c1, by omega, c3⟩, hw, hw2, D1_set, List.append_assoc]
      · rw [if_neg (by omega), if_neg (fun g => c3 g.2.2), hw2]
    · rw [if_neg c2, if_neg (fun g => c2 (by have := g.2.1; omega)), hw2]
  · rw [if_neg (by omega), if_neg (fun g => c1 g.1), hw2]
theorem r_l1 (l : List Int) (hl : l.length ≤ 40) (hv : ∀ v ∈ l, 1 ≤ v ∧ v ≤ 1000000) (am m x i : Int) (n c : Int) (hn : n ≤ 1000000) (dn : List Int) (hdn : (dn.length : Int) = c) (hi : 0 ≤ i) (hi2 : i ≤ 1000000) (r : Int × Int) (d : Nat) : ∀ (q : Nat) (s : St), q + d = l.length → Inv n c x s →
    Ev (fun k => pomaderef05_Both.l0 k l am m n (D1 (nd x (l.drop q) s).1) (dn ++ (nd x (l.drop q) s).2) (i + 1)) r → Ev (fun k => pomaderef05_Both.l1 k l am m n (D1 s.1) (dn ++ s.2) i x (q : Int)) r := by
  induction d with
  | zero =>
    intro q s hq h k
    rw [List.drop_of_length_le (by omega)] at k
    refine Ev.step (fun k => ?_) k
    simp only [pomaderef05_Both.l1]
    rw [if_neg (by omega), w64 (by omega) (by omega)]
    rfl
  | succ d ih =>
    intro q s hq h k
    have hvq := hv (rd l (q : Int)) (rd_in' l q (by omega) (by omega))
    have e1 : l.drop q = rd l (q : Int) :: l.drop (q + 1) := by
      rw [List.drop_eq_getElem_cons (show q < l.length by omega)]
      simp [rd, List.getD_eq_getElem?_getD, show q < l.length from by omega]
    rw [e1] at k
    obtain ⟨v, hvv⟩ : ∃ v, rd l (q : Int) = v := ⟨_, rfl⟩
    rw [hvv] at k hvq
    have a1 := (vis_ok h (x - v)).1
    have a2 := (vv_ok h v).1
    have k2 := ih (q + 1) (vv x s v) (by omega) a2 k
    refine Ev.step (f := fun k => pomaderef05_Both.l2 k l am m n (D1 s.1) (dn ++ s.2) i x (q : Int) (-1)) (fun k => ?_) ?_
    · simp only [pomaderef05_Both.l1]
      rw [if_pos (by omega)]
    refine r_l2 l am m x v _ _ n c hn s h dn hdn (by omega) (by omega) hvv hvq.1 hvq.2 (-1) (x - v) (.inl ⟨rfl, rfl⟩) r ?_
    refine r_l2 l am m x v _ _ n c hn _ a1 dn hdn (by omega) (by omega) hvv hvq.1 hvq.2 (-1 + 2) (x + v) (.inr ⟨rfl, rfl⟩) r ?_
    refine Ev.step (f := fun k => pomaderef05_Both.l1 k l am m n (D1 (vv x s v).1) (dn ++ (vv x s v).2) i x ((q + 1 : Nat) : Int)) (fun k => ?_) k2
    simp only [pomaderef05_Both.l2]
    rw [if_neg (by omega), w64 (x := (q : Int) + 1) (by omega) (by omega)]
    rfl

structure InvO (n c : Int) (s : St) : Prop where
  len : (s.1.length : Int) = n
  lo : ∀ y ∈ s.1, -1 ≤ y
  hi : ∀ y ∈ s.1, y + (U s.1 : Int) + 1 ≤ n
  inq : ∀ i ∈ s.2, 0 ≤ i ∧ i < n ∧ 0 ≤ rd s.1 i
  cnt : c + (s.2.length : Int) + (U s.1 : Int) = n
theorem Inv.out {n c x : Int} {s : St} (h : Inv n c x s) : InvO n c s := ⟨h.len, h.lo, h.hi, h.inq, h.cnt⟩
theorem InvO.pop {n c x : Int} {d q : List Int} (h : InvO n c (d, x :: q)) : Inv n (c + 1) x (d, q) := by
  obtain ⟨a, b, e⟩ := h.inq x List.mem_cons_self
  refine ⟨h.len, h.lo, h.hi, fun i hi => h.inq i (List.mem_cons_of_mem _ hi), ?_, a, b, e⟩
  have := h.cnt
  simp only [List.length_cons] at this ⊢
  omega
/-- the target is seen: the program eats its queue up to it -/
theorem p_seen (l : List Int) (hl : l.length ≤ 40) (hv : ∀ v ∈ l, 1 ≤ v ∧ v ≤ 1000000) (am m t n : Int) (hn : n ≤ 1000000) (ht : wrap64 (am + m) = t) (f : Nat) : ∀ (d q : List Int) (c : Int), 0 ≤ c → InvO n c (d, q) → q.length + U d ≤ f → t ∈ q →
    Ev (fun k => coins_Both.l0 k l am m d q) (rd d t, 0) := by
  induction f with
  | zero => intro d q c hc h hf hq; cases q with
    | nil => simp at hq
    | cons x q => simp at hf
  | succ f ih =>
    intro d q c hc h hf hq
    cases q with
    | nil => simp at hq
    | cons x q =>
      have hp := h.pop
      have hlen : (d.length : Int) = n := h.len
      have e0 : rd (x :: q) 0 = x := by simp [rd]
      have hx0 := hp.x0
      have hx1 := hp.x1
      by_cases hx : x = t
      · subst hx
        refine Ev.step (fun k => ?_) (Ev.now _)
        simp only [coins_Both.l0]
        rw [if_pos (by simp only [List.length_cons]; omega), if_pos (by simp only [List.length_cons]; omega), e0, if_pos ht.symm, if_pos hx0, if_pos (by omega)]
      · have htq : t ∈ q := by
          rcases List.mem_cons.1 hq with e | e
          · exact absurd e.symm hx
          · exact e
        obtain ⟨hI, hE⟩ := nd_ok l hp
        have hk := hE.keep t (hp.inq t htq).2.2
        have hm : (nd x l (d, q)).2.length + U (nd x l (d, q)).1 = q.length + U d := hE.meas
        have k := ih (nd x l (d, q)).1 (nd x l (d, q)).2 (c + 1) (by omega) hI.out (by simp only [List.length_cons] at hf; omega) (hE.sub htq)
        rw [hk] at k
        refine Ev.step (f := fun k => coins_Both.l1 k l am m d q x l (l.length : Int) ((0 : Nat) : Int)) (fun k => ?_) (p_l1 l hl hv am m x n (c + 1) hn (by omega) _ l.length 0 (d, q) (by omega) hp k)
        simp only [coins_Both.l0]
        rw [if_pos (by simp only [List.length_cons]; omega), if_pos (by simp only [List.length_cons]; omega), e0, if_neg (by omega)]
        rfl
theorem both_run (l l' : List Int) (hl1 : l = 1 :: l') (hl : l.length ≤ 40) (hv : ∀ v ∈ l, 1 ≤ v ∧ v ≤ 1000000) (am m t n : Int) (hn : n ≤ 1000000) (ht : wrap64 (am + m) = t) (ht' : wrap64 (m + am) = t) (ht0 : m ≤ t) (hm0 : 0 ≤ m) (htn : t < n) (f : Nat) : ∀ (d q dn : List Int), InvO n dn.length (d, q) → q.length + U d ≤ f →
    (∀ i, 0 ≤ i → i + 1 < n → 0 ≤ rd d i → i ∈ q ∨ 0 ≤ rd d (i + 1)) → (0 ≤ rd d t → t ∈ q) → 0 ≤ rd d m →
    ∃ r, Ev (fun k => coins_Both.l0 k l am m d q) r ∧ Ev (fun k => pomaderef05_Both.l0 k l am m n (D1 d) (dn ++ q) (dn.length : Int)) r := by
  have dec : ∀ b : Bool, b = true ∨ b = false := by decide
  induction f with
  | zero =>
    intro d q dn h hf hcl hT hM
    exfalso
    have hq : q = [] := List.eq_nil_of_length_eq_zero (by omega)
    subst hq
    have : ∀ k : Nat, m + k < n → 0 ≤ rd d (m + k) := by
      intro k
      induction k with
      | zero => intro _; simpa using hM
      | succ k ih =>
        intro hk
        rcases hcl (m + k) (by omega) (by omega) (ih (by omega)) with e | e
        · simp at e
        · rw [show m + ((k + 1 : Nat) : Int) = m + k + 1 from by omega]; exact e
    have h1 := this (t - m).toNat (by omega)
    rw [show m + ((t - m).toNat : Int) = t from by omega] at h1
    have := hT h1
    simp at this
  | succ f ih =>
    intro d q dn h hf hcl hT hM
    have hlen : (d.length : Int) = n := h.len
    have hcnt : (dn.length : Int) + (q.length : Int) + (U d : Int) = n := h.cnt
    by_cases hs : 0 ≤ rd d t
    · have htq := hT hs
      refine ⟨(rd d t, 0), p_seen l hl hv am m t n hn ht (f + 1) d q _ (by omega) h hf htq, ?_⟩
      have hne : 0 < q.length := List.length_pos_of_mem htq
      have e1 := rd_D1 d t (by omega) (by omega)
      have hth := h.hi _ (rd_in' d t (by omega) (by omega))
      have hdl := D1_len d
      refine Ev.step (f := fun k => pomaderef05_Both.j1 k l am m n (D1 d) (dn ++ q) (dn.length : Int) false) (fun k => ?_) (Ev.step (fun k => ?_) (Ev.now _))
      · simp only [pomaderef05_Both.l0]
        rw [if_pos (by rw [List.length_append]; omega), ht', if_pos (by omega), if_pos (by omega)]
        congr 1
        rw [e1]; simp; omega
      · simp only [pomaderef05_Both.j1]
        rw [if_neg (by simp), ht', if_pos (by omega), if_pos (by omega), e1, w64 (by omega) (by omega), Int.add_sub_cancel]
    · cases q with
      | nil =>
        exfalso
        have : ∀ k : Nat, m + k < n → 0 ≤ rd d (m + k) := by
          intro k
          induction k with
          | zero => intro _; simpa using hM
          | succ k ih =>
            intro hk
            rcases hcl (m + k) (by omega) (by omega) (ih (by omega)) with e | e
            · simp at e
            · rw [show m + ((k + 1 : Nat) : Int) = m + k + 1 from by omega]; exact e
        have h1 := this (t - m).toNat (by omega)
        rw [show m + ((t - m).toNat : Int) = t from by omega] at h1
        exact hs h1
      | cons x q =>
        have hp := h.pop
        have hx0 := hp.x0
        have hx1 := hp.x1
        have hxv : 0 ≤ rd d x := hp.xv
        have hxt : x ≠ t := fun e => hs (by rw [← e]; exact hxv)
        have e0 : rd (x :: q) 0 = x := by simp [rd]
        obtain ⟨hI, hE⟩ := nd_ok l hp
        have hm : (nd x l (d, q)).2.length + U (nd x l (d, q)).1 = q.length + U d := hE.meas
        have hdn : ((dn ++ [x]).length : Int) = (dn.length : Int) + 1 := by simp
        have hIo := hI.out
        rw [← hdn] at hIo
        obtain ⟨r, k1, k2⟩ := ih (nd x l (d, q)).1 (nd x l (d, q)).2 (dn ++ [x]) hIo (by simp only [List.length_cons] at hf; omega) (by
          intro i i0 i1 hi
          rcases hE.new i i0 (by show i < (d.length : Int); omega) hi with g | g
          · rcases hcl i i0 i1 g with g' | g'
            · rcases List.mem_cons.1 g' with rfl | g'
              · exact .inr (nd_up hp l' hl1 i1)
              · exact .inl (hE.sub g')
            · right
              have := hE.keep (i + 1) g'
              rw [this]; exact g'
          · exact .inl g) (by
          intro hi
          rcases hE.new t (by omega) (by show t < (d.length : Int); omega) hi with g | g
          · exact absurd g hs
          · exact g) (by have := hE.keep m hM; rw [this]; exact hM)
        simp only [List.length_cons] at hcnt
        refine ⟨r, ?_, ?_⟩
        · refine Ev.step (f := fun k => coins_Both.l1 k l am m d q x l (l.length : Int) ((0 : Nat) : Int)) (fun k => ?_) (p_l1 l hl hv am m x n _ hn (by omega) r l.length 0 (d, q) (by omega) hp k1)
          simp only [coins_Both.l0]
          rw [if_pos (by simp only [List.length_cons]; omega), if_pos (by simp only [List.length_cons]; omega), e0, if_neg (by omega)]
          rfl
        · have e1 := rd_D1 d t (by omega) (by omega)
          have hlo := h.lo _ (rd_in' d t (by omega) (by show t < (d.length : Int); omega))
          have hdl := D1_len d
          have hqe : dn ++ x :: q = (dn ++ [x]) ++ q := by simp
          have hrq : rd (dn ++ x :: q) (dn.length : Int) = x := by simp [rd, List.getD_eq_getElem?_getD]
          rw [hdn] at k2
          have k3 := r_l1 l hl hv am m x (dn.length : Int) n _ hn (dn ++ [x]) hdn (by omega) (by omega) r l.length 0 (d, q) (by omega) hp k2
          refine Ev.step (f := fun k => pomaderef05_Both.j1 k l am m n (D1 d) (dn ++ x :: q) (dn.length : Int) true) (fun k => ?_) (Ev.step (fun k => ?_) k3)
          · simp only [pomaderef05_Both.l0]
            rw [if_pos (by rw [List.length_append, List.length_cons]; omega), ht', if_pos (by omega), if_pos (by omega)]
            congr 1
            rw [e1]; simp; omega
          · simp only [pomaderef05_Both.j1]
            rw [if_pos trivial, if_pos (by omega), if_pos (by rw [List.length_append, List.length_cons]; omega), hrq, hqe]
            rfl
theorem both_both (l : List Int) (am : Int) : ∃ r, Ev (fun k => coins_Both.f k l am) r ∧ Ev (fun k => pomaderef05_Both.f k l am) r := by
  by_cases he : err l am 100000 = 0
  · obtain ⟨hs, a0, a1⟩ := err_zero he
    have hlen := hs.1
    have hlen2 := hs.2.1
    obtain ⟨m, hm⟩ : ∃ m, rd l ((l.length : Int) - 1) = m := ⟨_, rfl⟩
    have hmr := sys_rd hs (l.length - 1) (by omega)
    rw [show ((l.length - 1 : Nat) : Int) = (l.length : Int) - 1 from by omega, hm] at hmr
    obtain ⟨n, hn⟩ : ∃ n, am + 2 * m + 1 = n := ⟨_, rfl⟩
    have w0 : wrap64 ((l.length : Int) - 1) = (l.length : Int) - 1 := w64 (by omega) (by omega)
    have w1 : wrap64 (2 * m) = 2 * m := w64 (by omega) (by omega)
    have w2 : wrap64 (am + 2 * m) = am + 2 * m := w64 (by omega) (by omega)
    have w3 : wrap64 (am + 2 * m + 1) = n := by rw [hn]; exact w64 (by omega) (by omega)
    obtain ⟨l', hl'⟩ : ∃ l', l = 1 :: l' := by
      cases l with
      | nil => simp at hlen
      | cons x l' => have := hs.2.2.1; exact ⟨l', by rw [show x = 1 from by simpa [rd] using this]⟩
    obtain ⟨d0, hd0⟩ : ∃ d0 : List Int, List.replicate n.toNat (-1) = d0 := ⟨_, rfl⟩
    have l0 : (d0.length : Int) = n := by rw [← hd0]; simp; omega
    have r0 : ∀ j, 0 ≤ j → j < n → rd d0 j = -1 := fun j j0 j1 => by
      rw [← hd0]; simp [rd, List.getD_eq_getElem?_getD, show j.toNat < n.toNat from by omega]
    have u0 : (U d0 : Int) = n := by
      rw [← hd0]; unfold U; rw [List.countP_replicate]; simp; omega
    have u1 := U_set d0 m 0 (by omega) (by omega) (by rw [r0 m (by omega) (by omega)]; omega) (by omega)
    have rs : ∀ j, 0 ≤ j → j < n → rd (d0.set m.toNat 0) j = if j = m then 0 else -1 := fun j j0 j1 => by
      rw [rd_set d0 m 0 j (by omega) (by omega) j0, r0 j j0 j1]
    have all : ∀ y ∈ d0.set m.toNat 0, y = 0 ∨ y = -1 := fun y hy => by
      obtain ⟨i, i0, i1, e⟩ := mem_rd hy
      rw [rs i i0 (by rw [List.length_set] at i1; omega)] at e
      split at e <;> omega
    have inv : InvO n (([] : List Int).length : Int) (d0.set m.toNat 0, [m]) := by
      refine ⟨by show ((d0.set m.toNat 0).length : Int) = n; rw [List.length_set]; exact l0, fun y hy => ?_, fun y hy => ?_, fun i hi => ?_, ?_⟩
      · rcases all y hy with e | e <;> omega
      · show y + (U (d0.set m.toNat 0) : Int) + 1 ≤ n
        rcases all y hy with e | e <;> omega
      · obtain rfl : i = m := by simpa using hi
        refine ⟨by omega, by omega, ?_⟩
        show 0 ≤ rd (d0.set i.toNat 0) i
        rw [rs i (by omega) (by omega), if_pos rfl]; omega
      · show (0 : Int) + 1 + (U (d0.set m.toNat 0) : Int) = n
        omega
    have hv : ∀ v ∈ l, 1 ≤ v ∧ v ≤ 1000000 := fun v h => by have := hs.range v h; omega
    obtain ⟨r, k1, k2⟩ := both_run l l' hl' (by omega) hv am m (am + m) n (by omega) (w64 (by omega) (by omega)) (by rw [w64 (by omega) (by omega)]; omega) (by omega) (by omega) (by omega) (1 + U (d0.set m.toNat 0)) (d0.set m.toNat 0) [m] [] inv (by simp) (by
      intro i i0 i1 hi
      rw [rs i i0 (by omega)] at hi
      split at hi
      · left; rename_i e; simp [e]
      · omega) (by
      intro hi
      rw [rs _ (by omega) (by omega)] at hi
      split at hi
      · rename_i e; simp [e]
      · omega) (by rw [rs m (by omega) (by omega), if_pos rfl]; omega)
    refine ⟨r, ?_, ?_⟩
    · have h := looked_ev l am 100000
      rw [he] at h
      refine Ev.bind h ?_
      simp only [if_true, w0, hm, w1, w2, w3]
      refine Ev.congr (f := fun k => coins_Both.l0 k l am m (d0.set m.toNat 0) [m]) (fun k => ?_) k1
      rw [if_pos (by omega), if_pos (by omega)]
      unfold slices_Repeat_int_int.f
      rw [if_pos ⟨rfl, by omega, by omega⟩, Option.bind_some, show rd [(-1 : Int)] 0 = -1 from rfl, hd0, if_pos (by omega), if_pos (by omega)]
    · have h := asked_ev l am 100000
      rw [he] at h
      refine Ev.bind h ?_
      simp only [if_true, w0, hm, w1, w2, w3]
      refine Ev.congr (f := fun k => pomaderef05_Both.l0 k l am m n (D1 (d0.set m.toNat 0)) [m] 0) (fun k => ?_) k2
      have e1 : D1 (d0.set m.toNat 0) = (List.replicate n.toNat (0 : Int)).set m.toNat 1 := by
        rw [← D1_set, ← hd0]; simp [D1]
      rw [if_pos (by omega), if_pos (by omega), if_pos (by omega), if_pos (by omega), Option.bind_some, if_pos (by omega), if_pos (by rw [List.length_replicate]; omega), e1]
  · refine ⟨(0, err l am 100000), Ev.bind (looked_ev l am 100000) (Ev.congr (fun k => if_neg he) (Ev.now _)), Ev.bind (asked_ev l am 100000) (Ev.congr (fun k => if_neg he) (Ev.now _))⟩
end Go.Proofs.Ytgbalmjnjpfopaa.L
