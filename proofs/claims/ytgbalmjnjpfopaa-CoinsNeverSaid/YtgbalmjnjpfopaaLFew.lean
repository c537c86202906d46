/- Coin systems: the greedy change, and sums. -/
import Derived.Test.YtgbalmjnjpfopaaLGreedy
import Derived.Test.YtgbalmjnjpfopaaLTab
namespace Go.Proofs.Ytgbalmjnjpfopaa.L
open Go.RowKit Go.Proofs.Ytgbalmjnjpfopaa.PC Go.Proofs.YtgbalmjnjpfopaaW.PrintWords Go.Proofs.YtgbalmjnjpfopaaW.PrintLast Go.Proofs.Ytgbalmjnjpfopaa.M

/-! ### the greedy change -/
theorem G_append (D E : List Nat) (x : Nat) : G (D ++ E) x = G D x ++ G E (D.foldl (fun y c => y % c) x) := by
  induction D generalizing x with
  | nil => rfl
  | cons c cs ih => simp [G, ih]
theorem gl_nat (l : List Int) (hv : ∀ v ∈ l, 1 ≤ v) (a : Int) (ha : 0 ≤ a) : nats (coins_greedy.gl l a).1 = (G (DD l) a.toNat).reverse ∧ (coins_greedy.gl l a).2.toNat = (DD l).foldl (fun y c => y % c) a.toNat := by
  induction l with
  | nil => exact ⟨rfl, rfl⟩
  | cons v l ih =>
    obtain ⟨h1, h2⟩ := ih (fun x hx => hv x (List.mem_cons_of_mem _ hx))
    obtain ⟨g0, _⟩ := gl_rem l a (fun x hx => hv x (List.mem_cons_of_mem _ hx)) ha
    have hv1 := hv v List.mem_cons_self
    have hd : DD (v :: l) = DD l ++ [v.toNat] := by simp [DD, nats]
    have hdiv : ((coins_greedy.gl l a).2 / v).toNat = (coins_greedy.gl l a).2.toNat / v.toNat := by
      obtain ⟨x, hx⟩ := Int.eq_ofNat_of_zero_le g0
      obtain ⟨y, rfl⟩ := Int.eq_ofNat_of_zero_le (show 0 ≤ v by omega)
      rw [hx]; simp only [Int.toNat_natCast]
      rw [← Int.natCast_ediv]; exact Int.toNat_natCast _
    have hmod : ((coins_greedy.gl l a).2 % v).toNat = (coins_greedy.gl l a).2.toNat % v.toNat := by
      obtain ⟨x, hx⟩ := Int.eq_ofNat_of_zero_le g0
      obtain ⟨y, rfl⟩ := Int.eq_ofNat_of_zero_le (show 0 ≤ v by omega)
      rw [hx]; simp only [Int.toNat_natCast]
      rw [← Int.natCast_emod]; exact Int.toNat_natCast _
    rw [hd, G_append, List.foldl_append]
    simp only [coins_greedy.gl]
    constructor
    · simp only [nats, List.map_cons] at h1 ⊢
      rw [hdiv, h1, h2]
      simp [G]
    · simp only [List.foldl_cons, List.foldl_nil]
      rw [hmod, h2]
theorem gl_nonneg (l : List Int) (hv : ∀ v ∈ l, 1 ≤ v) (a : Int) (ha : 0 ≤ a) : ∀ x ∈ (coins_greedy.gl l a).1, 0 ≤ x ∧ x ≤ a := by
  induction l with
  | nil => intro x hx; simp [coins_greedy.gl] at hx
  | cons v l ih =>
    intro x hx
    simp only [coins_greedy.gl, List.mem_cons] at hx
    rcases hx with rfl | hx
    · obtain ⟨g0, g1⟩ := gl_rem l a (fun x hx => hv x (List.mem_cons_of_mem _ hx)) ha
      have hv1 := hv v List.mem_cons_self
      exact ⟨Int.ediv_nonneg g0 (by omega), by have := Int.ediv_le_self v g0; omega⟩
    · exact ih (fun x hx => hv x (List.mem_cons_of_mem _ hx)) x hx
theorem nats_sum (l : List Int) (h : ∀ x ∈ l, 0 ≤ x) : ((nats l).sum : Int) = l.sum := by
  induction l with
  | nil => rfl
  | cons x l ih =>
    have h1 := ih (fun y hy => h y (List.mem_cons_of_mem _ hy))
    have h2 := h x List.mem_cons_self
    simp only [nats, List.map_cons, List.sum_cons] at h1 ⊢
    omega
theorem gl_sum (l : List Int) (hs : Sys l) (a : Int) (ha : 0 ≤ a) : (coins_greedy.gl l a).1.sum = (g (DD l) a.toNat : Int) := by
  have hp : ∀ v ∈ l, 1 ≤ v := fun v hv => (hs.range v hv).1
  rw [← nats_sum _ (fun x hx => (gl_nonneg l hp a ha x hx).1), (gl_nat l hp a ha).1]
  unfold g
  rw [List.sum_reverse]
theorem g_le (D : List Nat) (hD : OkD D) (x : Nat) : g D x ≤ x := by
  have h1 := val_G hD x
  have key : ∀ (E v : List Nat), (∀ c ∈ E, 1 ≤ c) → v.length = E.length → v.sum ≤ val E v := by
    intro E
    induction E with
    | nil => intro v _ h; cases v <;> simp_all [val]
    | cons c cs ih =>
      intro v hE h
      cases v with
      | nil => simp at h
      | cons n ns =>
        have h1 := ih ns (fun d hd => hE d (List.mem_cons_of_mem _ hd)) (by simpa using h)
        have h2 : n * 1 ≤ n * c := Nat.mul_le_mul_left n (hE c List.mem_cons_self)
        simp only [val, List.sum_cons]; omega
  have h2 := key D (G D x) hD.pos (G_len D x)
  unfold g
  omega

/-! ### sums -/
theorem sum_drop (v : List Int) (q : Nat) (h : q < v.length) : (v.drop q).sum = rd v (q : Int) + (v.drop (q + 1)).sum := by
  rw [List.drop_eq_getElem_cons h, List.sum_cons]
  simp [rd, List.getD_eq_getElem?_getD, h]
theorem sum_nonneg (v : List Int) (h : ∀ x ∈ v, 0 ≤ x) : 0 ≤ v.sum := by
  rw [← nats_sum v h]; omega
theorem sum_loop (v : List Int) (hl : v.length ≤ 1000000) (hv : ∀ x ∈ v, 0 ≤ x) (hb : v.sum ≤ 4611686018427387904) (d : Nat) : ∀ (q : Nat) (s : Int), q + d = v.length → s + (v.drop q).sum = v.sum → 0 ≤ s → Ev (fun k => coins_sum.l0 k s v (v.length : Int) (q : Int)) v.sum := by
  induction d with
  | zero =>
    intro q s hq hs h0
    rw [List.drop_of_length_le (by omega)] at hs
    simp at hs
    refine Ev.step (f := fun _ => some v.sum) (fun k => ?_) (Ev.now _)
    simp only [coins_sum.l0]
    rw [if_neg (by omega), hs]
  | succ d ih =>
    intro q s hq hs h0
    have hql : q < v.length := by omega
    have e := sum_drop v q hql
    have n1 := sum_nonneg (v.drop (q + 1)) (fun x hx => hv x (List.mem_of_mem_drop hx))
    have n2 := hv (rd v (q : Int)) (by simp [rd, List.getD_eq_getElem?_getD, hql])
    refine Ev.step (fun k => ?_) (ih (q + 1) (s + rd v (q : Int)) (by omega) (by omega) (by omega))
    simp only [coins_sum.l0]
    rw [if_pos (by omega), if_pos (by omega), if_pos (by omega), w64 (by omega) (by omega), w64 (by omega) (by omega)]
    rfl
theorem sum_ev (v : List Int) (hl : v.length ≤ 1000000) (hv : ∀ x ∈ v, 0 ≤ x) (hb : v.sum ≤ 4611686018427387904) : Ev (fun k => coins_sum.f k v) v.sum :=
  sum_loop v hl hv hb v.length 0 0 (by omega) (by simp) (Int.le_refl _)
end Go.Proofs.Ytgbalmjnjpfopaa.L
