/- Coin systems in plain numbers: the table of the least numbers of coins, the best change, one coin more. No program stands here. -/
import Derived.Test.YtgbalmjnjpfopaaMPearson
namespace Go.Proofs.Ytgbalmjnjpfopaa.M

/-- the least of m and of one coin more than what is left, for the coins that fit (they ascend) -/
def best1 (f : Nat → Nat) (a : Nat) : List Nat → Nat → Nat
  | [], m => m
  | c :: cs, m => if c ≤ a then best1 f a cs (min m (f (a - c) + 1)) else m
/-- the table; L: the coins beside 1; n bounds the rounds -/
def opt (L : List Nat) : Nat → Nat → Nat
  | 0, _ => 0
  | n + 1, a => if a = 0 then 0 else best1 (opt L n) a L a
def Fw (L : List Nat) (a : Nat) : Nat := opt L a a

theorem best1_spec (f : Nat → Nat) (a : Nat) : ∀ (L : List Nat) (m : Nat), L.Pairwise (· < ·) →
    best1 f a L m ≤ m ∧ (∀ c ∈ L, c ≤ a → best1 f a L m ≤ f (a - c) + 1) ∧ (best1 f a L m = m ∨ ∃ c ∈ L, c ≤ a ∧ best1 f a L m = f (a - c) + 1) := by
  intro L
  induction L with
  | nil => intro m _; exact ⟨Nat.le_refl _, fun c h => by simp at h, .inl rfl⟩
  | cons c cs ih =>
    intro m hp
    obtain ⟨h1, h2⟩ := List.pairwise_cons.1 hp
    simp only [best1]
    by_cases hc : c ≤ a
    · rw [if_pos hc]
      obtain ⟨i1, i2, i3⟩ := ih (min m (f (a - c) + 1)) h2
      refine ⟨by omega, fun x hx hxa => ?_, ?_⟩
      · rcases List.mem_cons.1 hx with rfl | hx
        · omega
        · exact i2 x hx hxa
      · rcases i3 with i3 | ⟨x, hx, hxa, i3⟩
        · rcases Nat.le_total m (f (a - c) + 1) with h | h
          · left; rw [i3]; omega
          · right; exact ⟨c, List.mem_cons_self, hc, by rw [i3]; omega⟩
        · exact .inr ⟨x, List.mem_cons_of_mem _ hx, hxa, i3⟩
    · rw [if_neg hc]
      refine ⟨Nat.le_refl _, fun x hx hxa => ?_, .inl rfl⟩
      rcases List.mem_cons.1 hx with rfl | hx
      · exact absurd hxa hc
      · have := h1 x hx; omega
theorem best1_congr (f f' : Nat → Nat) (a : Nat) : ∀ (L : List Nat) (m : Nat), (∀ c ∈ L, c ≤ a → f (a - c) = f' (a - c)) → best1 f a L m = best1 f' a L m := by
  intro L
  induction L with
  | nil => intro m _; rfl
  | cons c cs ih =>
    intro m h
    simp only [best1]
    by_cases hc : c ≤ a
    · rw [if_pos hc, if_pos hc, h c List.mem_cons_self hc, ih _ (fun x hx => h x (List.mem_cons_of_mem _ hx))]
    · rw [if_neg hc, if_neg hc]
theorem opt_fuel (L : List Nat) (hL : ∀ c ∈ L, 1 ≤ c) : ∀ (n m a : Nat), a ≤ n → a ≤ m → opt L n a = opt L m a := by
  intro n
  induction n with
  | zero =>
    intro m a h1 h2
    obtain rfl : a = 0 := by omega
    cases m with
    | zero => rfl
    | succ m => simp [opt]
  | succ n ih =>
    intro m a h1 h2
    cases m with
    | zero =>
      obtain rfl : a = 0 := by omega
      simp [opt]
    | succ m =>
      simp only [opt]
      by_cases h : a = 0
      · rw [if_pos h, if_pos h]
      · rw [if_neg h, if_neg h]
        exact best1_congr _ _ a L a (fun c hc hca => ih m (a - c) (by have := hL c hc; omega) (by have := hL c hc; omega))
theorem Fw_zero (L : List Nat) : Fw L 0 = 0 := rfl
theorem Fw_eq (L : List Nat) (hL : ∀ c ∈ L, 1 ≤ c) (a : Nat) (h : 0 < a) : Fw L a = best1 (Fw L) a L a := by
  obtain ⟨n, rfl⟩ : ∃ n, a = n + 1 := ⟨a - 1, by omega⟩
  unfold Fw
  simp only [opt]
  rw [if_neg (by omega)]
  exact best1_congr _ _ _ L _ (fun c hc hca => opt_fuel L hL _ _ _ (by have := hL c hc; omega) (Nat.le_refl _))
theorem Fw_le_self (L : List Nat) (hL : ∀ c ∈ L, 1 ≤ c) (hp : L.Pairwise (· < ·)) (a : Nat) : Fw L a ≤ a := by
  rcases Nat.eq_zero_or_pos a with rfl | h
  · exact Nat.le_refl _
  · rw [Fw_eq L hL a h]; exact (best1_spec _ a L a hp).1
theorem Fw_succ (L : List Nat) (hL : ∀ c ∈ L, 1 ≤ c) (hp : L.Pairwise (· < ·)) (a : Nat) : Fw L (a + 1) ≤ Fw L a + 1 := by
  induction a using Nat.strongRecOn with
  | ind a ih =>
    rcases Nat.eq_zero_or_pos a with rfl | h
    · have := Fw_le_self L hL hp 1; rw [Fw_zero]; exact this
    · have e := Fw_eq L hL a h
      have e1 := Fw_eq L hL (a + 1) (by omega)
      obtain ⟨s1, s2, s3⟩ := best1_spec (Fw L) a L a hp
      obtain ⟨t1, t2, _⟩ := best1_spec (Fw L) (a + 1) L (a + 1) hp
      rcases s3 with s3 | ⟨c, hc, hca, s3⟩
      · omega
      · have h1 := t2 c hc (by omega)
        have h2 := ih (a - c) (by have := hL c hc; omega)
        rw [show a + 1 - c = a - c + 1 from by omega] at h1
        omega
theorem isFew_Fw (L : List Nat) (hL : ∀ c ∈ L, 1 ≤ c) (hp : L.Pairwise (· < ·)) : IsFew (1 :: L).reverse (Fw L) := by
  refine ⟨Fw_zero L, fun a c hc hca => ?_, fun a h => ?_⟩
  · have hc' : c = 1 ∨ c ∈ L := by simpa [or_comm] using hc
    rcases hc' with rfl | hc'
    · have := Fw_succ L hL hp (a - 1)
      rwa [show a - 1 + 1 = a from by omega] at this
    · rw [Fw_eq L hL a (by have := hL c hc'; omega)]
      exact (best1_spec _ a L a hp).2.1 c hc' hca
  · have e := Fw_eq L hL a h
    obtain ⟨s1, s2, s3⟩ := best1_spec (Fw L) a L a hp
    rcases s3 with s3 | ⟨c, hc, hca, s3⟩
    · refine ⟨1, by simp, h, ?_⟩
      have h1 := Fw_succ L hL hp (a - 1)
      rw [show a - 1 + 1 = a from by omega] at h1
      have h2 := Fw_le_self L hL hp (a - 1)
      omega
    · exact ⟨c, by simp [hc], hca, by omega⟩
/-- the program begins with one coin of 1 more -/
theorem best1_prog (L : List Nat) (hL : ∀ c ∈ L, 1 ≤ c) (hp : L.Pairwise (· < ·)) (a : Nat) (h : 0 < a) : best1 (Fw L) a L (Fw L (a - 1) + 1) = Fw L a := by
  have e := Fw_eq L hL a h
  obtain ⟨s1, s2, s3⟩ := best1_spec (Fw L) a L a hp
  obtain ⟨t1, t2, t3⟩ := best1_spec (Fw L) a L (Fw L (a - 1) + 1) hp
  have h1 := Fw_succ L hL hp (a - 1)
  rw [show a - 1 + 1 = a from by omega] at h1
  have h2 := Fw_le_self L hL hp (a - 1)
  have le1 : best1 (Fw L) a L (Fw L (a - 1) + 1) ≤ Fw L a := by
    rcases s3 with s3 | ⟨c, hc, hca, s3⟩
    · omega
    · have := t2 c hc hca; omega
  have le2 : Fw L a ≤ best1 (Fw L) a L (Fw L (a - 1) + 1) := by
    rcases t3 with t3 | ⟨c, hc, hca, t3⟩
    · omega
    · have := s2 c hc hca; omega
  omega
/-- only one table obeys -/
theorem few_unique {D : List Nat} {f f' : Nat → Nat} (hD : ∀ c ∈ D, 1 ≤ c) (h : IsFew D f) (h' : IsFew D f') (a : Nat) : f a = f' a := by
  induction a using Nat.strongRecOn with
  | ind a ih =>
    rcases Nat.eq_zero_or_pos a with rfl | ha
    · rw [h.zero, h'.zero]
    · obtain ⟨c, c1, c2, c3⟩ := h.ex a ha
      obtain ⟨d, d1, d2, d3⟩ := h'.ex a ha
      have e1 := h.le a d d1 d2
      have e2 := h'.le a c c1 c2
      rw [ih (a - d) (by have := hD d d1; omega)] at e1
      rw [← ih (a - c) (by have := hD c c1; omega)] at e2
      omega

/-! ### the best change -/
def cntN (f : Nat → Nat) (v : Nat) : Nat → Nat → Nat
  | 0, _ => 0
  | d + 1, a => if v ≤ a ∧ f (a - v) + 1 = f a then cntN f v d (a - v) + 1 else 0
/-- the coins ascend; the greatest ones are taken first -/
def bN (f : Nat → Nat) : List Nat → Nat → List Nat × Nat
  | [], a => ([], a)
  | v :: l, a => (cntN f v (bN f l a).2 (bN f l a).2 :: (bN f l a).1, (bN f l a).2 - cntN f v (bN f l a).2 (bN f l a).2 * v)
/-- a coin that does not help -/
def Done (f : Nat → Nat) (c r : Nat) : Prop := ¬ (c ≤ r ∧ f (r - c) + 1 = f r)
theorem cntN_spec {D : List Nat} {f : Nat → Nat} (hf : IsFew D f) {v : Nat} (hvD : v ∈ D) (hv : 1 ≤ v) (d : Nat) : ∀ a, a ≤ d →
    cntN f v d a * v ≤ a ∧ f a = f (a - cntN f v d a * v) + cntN f v d a ∧ Done f v (a - cntN f v d a * v) ∧ (∀ c ∈ D, Done f c a → Done f c (a - cntN f v d a * v)) := by
  induction d with
  | zero =>
    intro a h
    obtain rfl : a = 0 := by omega
    simp only [cntN, Nat.zero_mul, Nat.sub_zero, Nat.add_zero]
    exact ⟨Nat.le_refl _, trivial, fun h => by omega, fun c _ h => h⟩
  | succ d ih =>
    intro a h
    simp only [cntN]
    by_cases hc : v ≤ a ∧ f (a - v) + 1 = f a
    · rw [if_pos hc]
      obtain ⟨i1, i2, i3, i4⟩ := ih (a - v) (by omega)
      have e : a - (cntN f v d (a - v) + 1) * v = a - v - cntN f v d (a - v) * v := by rw [Nat.add_mul]; omega
      rw [e]
      refine ⟨by rw [Nat.add_mul]; omega, by omega, i3, fun c hcD hdn => i4 c hcD ?_⟩
      rintro ⟨h1, h2⟩
      refine hdn ⟨by omega, ?_⟩
      have h3 := hf.le a c hcD (by omega)
      have h4 := hf.le (a - c) v hvD (by omega)
      rw [show a - c - v = a - v - c from by omega] at h4
      omega
    · rw [if_neg hc]
      simp only [Nat.zero_mul, Nat.sub_zero, Nat.add_zero]
      exact ⟨Nat.zero_le _, trivial, hc, fun c _ h => h⟩
theorem bN_spec {D : List Nat} {f : Nat → Nat} (hD : ∀ c ∈ D, 1 ≤ c) (hf : IsFew D f) : ∀ (l : List Nat) (a : Nat), (∀ c ∈ l, c ∈ D) →
    (bN f l a).1.length = l.length ∧ val l (bN f l a).1 + (bN f l a).2 = a ∧ f a = f (bN f l a).2 + (bN f l a).1.sum ∧ (∀ c ∈ l, Done f c (bN f l a).2) := by
  intro l
  induction l with
  | nil => intro a _; exact ⟨rfl, by simp [bN, val], by simp [bN], fun c h => by simp at h⟩
  | cons v l ih =>
    intro a hl
    obtain ⟨i1, i2, i3, i4⟩ := ih a (fun c hc => hl c (List.mem_cons_of_mem _ hc))
    obtain ⟨c1, c2, c3, c4⟩ := cntN_spec hf (hl v List.mem_cons_self) (hD v (hl v List.mem_cons_self)) (bN f l a).2 (bN f l a).2 (Nat.le_refl _)
    simp only [bN, val, List.length_cons, List.sum_cons]
    refine ⟨by omega, by omega, by omega, fun c hc => ?_⟩
    rcases List.mem_cons.1 hc with rfl | hc
    · exact c3
    · exact c4 c (hl c (List.mem_cons_of_mem _ hc)) (i4 c hc)
/-- the best change is a change, with the least number of coins -/
theorem bN_best {D : List Nat} {f : Nat → Nat} (hD : ∀ c ∈ D, 1 ≤ c) (hf : IsFew D f) (l : List Nat) (hl : ∀ c, c ∈ l ↔ c ∈ D) (a : Nat) :
    (bN f l a).1.length = l.length ∧ val l (bN f l a).1 = a ∧ f a = (bN f l a).1.sum ∧ (bN f l a).2 = 0 := by
  obtain ⟨h1, h2, h3, h4⟩ := bN_spec hD hf l a (fun c hc => (hl c).1 hc)
  have hz : (bN f l a).2 = 0 := by
    rcases Nat.eq_zero_or_pos (bN f l a).2 with h | h
    · exact h
    · obtain ⟨c, c1, c2, c3⟩ := hf.ex _ h
      exact absurd ⟨c2, c3.symm⟩ (h4 c ((hl c).2 c1))
  rw [hz, hf.zero] at h3
  exact ⟨h1, by omega, by omega, hz⟩
theorem IsFew.rep_sub {D : List Nat} {f : Nat → Nat} (h : IsFew D f) : ∀ (E v : List Nat) (x : Nat), (∀ c ∈ E, c ∈ D) → f (x + val E v) ≤ f x + v.sum := by
  intro E
  induction E with
  | nil => intro v x _; simp [val]
  | cons c cs ih =>
    intro v x hE
    cases v with
    | nil => simp [val]
    | cons n ns =>
      simp only [val]
      have h1 := ih ns (x + n * c) (fun d hd => hE d (List.mem_cons_of_mem _ hd))
      have h2 := h.add (hE c List.mem_cons_self) n x
      rw [← Nat.add_assoc]
      simp only [List.sum_cons]
      omega
theorem IsFew.rep0 {D : List Nat} {f : Nat → Nat} (h : IsFew D f) (E v : List Nat) (hE : ∀ c ∈ E, c ∈ D) : f (val E v) ≤ v.sum := by
  have h1 := h.rep_sub E v 0 hE
  rw [h.zero, Nat.zero_add, Nat.zero_add] at h1
  exact h1
theorem val_dec (k : Nat) (D a : List Nat) (h : 0 < at_ a k) (hl : a.length = D.length) : val D (dec k a) + at_ D k = val D a := by
  have h1 := val_inc k D (dec k a) (by rw [len_dec]; exact at_lt_of_pos h) (by rw [len_dec]; exact hl)
  rw [inc_dec k a h] at h1
  omega
/-- a coin of a least change helps -/
theorem least_helps {D : List Nat} {f : Nat → Nat} (hf : IsFew D f) (l v : List Nat) (hl : ∀ c ∈ l, c ∈ D) (hlen : v.length = l.length) (hs : f (val l v) = v.sum) (k : Nat) (hk : 0 < at_ v k) :
    at_ l k ≤ val l v ∧ f (val l v) = f (val l v - at_ l k) + 1 := by
  have h1 := val_dec k l v hk hlen
  have h2 := sum_dec k v hk
  have h3 := hf.rep0 l (dec k v) hl
  have h4 := hf.le (val l v) (at_ l k) (hl _ (at_mem (by have := at_lt_of_pos hk; omega))) (by omega)
  rw [show val l v - at_ l k = val l (dec k v) from by omega] at h4 ⊢
  exact ⟨by omega, by omega⟩

/-! ### one coin more -/
theorem g_cons_lt (v : Nat) (D : List Nat) (x : Nat) (h : x < v) : g (v :: D) x = g D x := by
  unfold g; simp only [G]; rw [Nat.div_eq_of_lt h, Nat.mod_eq_of_lt h]; simp
theorem g_cons_ge (v : Nat) (D : List Nat) (x : Nat) (hv : 1 ≤ v) (h : v ≤ x) : g (v :: D) x = g (v :: D) (x - v) + 1 := by
  unfold g; simp only [G]
  obtain ⟨y, rfl⟩ : ∃ y, x = y + v := ⟨x - v, by omega⟩
  rw [Nat.add_sub_cancel, Nat.add_mod_right, Nat.add_div_right _ (by omega)]
  simp only [List.sum_cons]; omega
/-- Magazine, Nemhauser and Trotter -/
theorem one_point {c v : Nat} {r : List Nat} {f f' : Nat → Nat} (hD : OkD (c :: r)) (hf : IsFew (c :: r) f) (hf' : IsFew (v :: c :: r) f') (hcv : c < v) (hg : ∀ a, f a = g (c :: r) a) (m : Nat) (hm0 : (m - 1) * c < v) (hm1 : v ≤ m * c) :
    (∀ a, f' a = g (v :: c :: r) a) ↔ g (c :: r) (m * c - v) < m := by
  have hc1 := hD.pos c List.mem_cons_self
  have hm : 1 ≤ m := by
    rcases Nat.eq_zero_or_pos m with rfl | h
    · simp at hm1; omega
    · exact h
  have hmc : m * c = (m - 1) * c + c := by
    obtain ⟨q, rfl⟩ : ∃ q, m = q + 1 := ⟨m - 1, by omega⟩
    rw [Nat.add_sub_cancel, Nat.add_mul]; omega
  constructor
  · intro h
    have h1 := h (m * c)
    rw [g_cons_ge v _ _ (by omega) hm1, g_cons_lt v _ _ (by omega)] at h1
    have h2 := hf'.add (c := c) (by simp) m 0
    rw [hf'.zero, Nat.zero_add, Nat.zero_add] at h2
    omega
  · intro h
    -- what fits v is best begun with v
    have key : ∀ a, v ≤ a → f' a = f' (a - v) + 1 := by
      intro a ha
      -- as long as v helps not, the old coins serve
      have old : ∀ a, f' a ≤ f a := by
        intro a
        have h1 := hf'.rep0 (c :: r) (G (c :: r) a) (fun x hx => List.mem_cons_of_mem _ hx)
        rw [val_G hD] at h1
        have := hg a
        unfold g at this
        omega
      have alt : f' a = f' (a - v) + 1 ∨ f' a = f a := by
        clear ha
        induction a using Nat.strongRecOn with
        | ind a ih =>
          rcases Nat.eq_zero_or_pos a with rfl | h0
          · exact .inr (by rw [hf'.zero, hf.zero])
          · obtain ⟨d, d1, d2, d3⟩ := hf'.ex a h0
            rcases List.mem_cons.1 d1 with rfl | d1
            · exact .inl d3
            · have hd1 := hD.pos d d1
              rcases ih (a - d) (by omega) with h1 | h1
              · by_cases hva : v ≤ a - d
                · left
                  have h2 := hf'.le (a - v) d (List.mem_cons_of_mem _ d1) (by omega)
                  have h3 := hf'.le a v List.mem_cons_self (by omega)
                  rw [show a - v - d = a - d - v from by omega] at h2
                  omega
                · -- then v is greater than what is left: only the old coins fit
                  right
                  rw [show a - d - v = 0 from by omega, hf'.zero] at h1
                  have h2 := old a
                  have h3 := hf.le a d d1 d2
                  have h4 : f (a - d) ≤ f' (a - d) := by
                    -- below v the two tables are one
                    have low : ∀ x, x < v → f x ≤ f' x := by
                      intro x
                      induction x using Nat.strongRecOn with
                      | ind x ihx =>
                        intro hx
                        rcases Nat.eq_zero_or_pos x with rfl | hx0
                        · rw [hf.zero]; exact Nat.zero_le _
                        · obtain ⟨e, e1, e2, e3⟩ := hf'.ex x hx0
                          rcases List.mem_cons.1 e1 with rfl | e1
                          · omega
                          · have he1 := hD.pos e e1
                            have := ihx (x - e) (by omega) (by omega)
                            have := hf.le x e e1 e2
                            omega
                    exact low _ (by omega)
                  omega
              · right
                have h2 := old a
                have h3 := hf.le a d d1 d2
                omega
      rcases alt with h1 | h1
      · exact h1
      · have h3 := hf'.le a v List.mem_cons_self ha
        have h4 := old (a - v)
        -- the old change of a can be turned into one with v
        have h5 : f (a - v) + 1 ≤ f a := by
          -- at least m - 1 of the greatest old coin
          have sub : ∀ (n x : Nat), n * c ≤ x → g (c :: r) x = g (c :: r) (x - n * c) + n := by
            intro n
            induction n with
            | zero => intro x _; simp
            | succ n ihn =>
              intro x hx
              rw [Nat.add_mul] at hx
              have e1 := ihn x (by omega)
              have e2 := g_cons_ge c r (x - n * c) hc1 (by omega)
              rw [e1, e2, show x - n * c - c = x - (n + 1) * c from by rw [Nat.add_mul]; omega]
              omega
          have hrep : ∀ x y, f (x + y) ≤ f x + f y := by
            intro x y
            have h1 := hf.rep_sub (c :: r) (G (c :: r) y) x (fun _ h => h)
            rw [val_G hD] at h1
            have := hg y
            unfold g at this
            omega
          have gm : f (m * c - v) < m := by rw [hg]; exact h
          by_cases hb : m * c ≤ a
          · have e1 := sub m a hb
            rw [← hg, ← hg] at e1
            have e2 := hrep (a - m * c) (m * c - v)
            rw [show a - m * c + (m * c - v) = a - v from by omega] at e2
            omega
          · have e1 := sub (m - 1) a (by omega)
            rw [← hg, ← hg] at e1
            have e2 := hrep (a - (m - 1) * c) (m * c - v)
            have e3 := sub 1 (a - (m - 1) * c + (m * c - v)) (by omega)
            rw [← hg, ← hg, show a - (m - 1) * c + (m * c - v) - 1 * c = a - v from by omega] at e3
            omega
        omega
    intro a
    induction a using Nat.strongRecOn with
    | ind a ih =>
      by_cases hva : v ≤ a
      · rw [key a hva, g_cons_ge v _ a (by omega) hva, ih (a - v) (by omega)]
      · rw [g_cons_lt v _ a (by omega), ← hg]
        have low : ∀ x, x < v → f' x = f x := by
          intro x
          induction x using Nat.strongRecOn with
          | ind x ihx =>
            intro hx
            rcases Nat.eq_zero_or_pos x with rfl | hx0
            · rw [hf.zero, hf'.zero]
            · obtain ⟨e, e1, e2, e3⟩ := hf'.ex x hx0
              obtain ⟨d, d1, d2, d3⟩ := hf.ex x hx0
              have hd1 := hD.pos d d1
              have h2 := hf'.le x d (List.mem_cons_of_mem _ d1) d2
              rw [ihx (x - d) (by omega) (by omega)] at h2
              rcases List.mem_cons.1 e1 with rfl | e1
              · omega
              · have he1 := hD.pos e e1
                have h3 := hf.le x e e1 e2
                rw [← ihx (x - e) (by omega) (by omega)] at h3
                omega
        exact low a (by omega)

/-! ### the least amount for which greed fails, or none -/
theorem fail_or {D : List Nat} {f : Nat → Nat} (hD : OkD D) (hf : IsFew D f) : (∀ a, f a = g D a) ∨ ∃ w, f w < g D w ∧ ∀ a, a < w → f a = g D a := by
  by_cases h : ∀ a, f a = g D a
  · exact .inl h
  · right
    obtain ⟨a, ha⟩ := Classical.not_forall.1 h
    have : ∀ a, f a ≠ g D a → ∃ w, f w < g D w ∧ ∀ a, a < w → f a = g D a := by
      intro a
      induction a using Nat.strongRecOn with
      | ind a ih =>
        intro ha
        by_cases c : ∃ b, b < a ∧ f b ≠ g D b
        · obtain ⟨b, h1, h2⟩ := c
          exact ih b h1 h2
        · refine ⟨a, ?_, fun b hb => Classical.byContradiction fun h => c ⟨b, hb, h⟩⟩
          have := few_le_g hD hf a
          omega
    exact this a ha
end Go.Proofs.Ytgbalmjnjpfopaa.M
