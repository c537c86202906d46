/- Coin systems in plain numbers: the greedy change, the least numbers of coins, and Pearson's theorem on the least amount for which greed fails. No program stands here. -/
namespace Go.Proofs.Ytgbalmjnjpfopaa.M

/-- strictly falling, the last one 1 -/
def OkD : List Nat → Prop
  | [] => False
  | [c] => c = 1
  | c :: d :: r => d < c ∧ OkD (d :: r)
/-- the greedy change; the coins, the greatest first -/
def G : List Nat → Nat → List Nat
  | [], _ => []
  | c :: cs, x => x / c :: G cs (x % c)
/-- the worth of a change -/
def val : List Nat → List Nat → Nat
  | c :: cs, n :: ns => n * c + val cs ns
  | _, _ => 0
/-- coin number k, entry number k -/
def at_ (l : List Nat) (k : Nat) : Nat := l.getD k 0
/-- one more, one less at place k -/
def inc : Nat → List Nat → List Nat
  | _, [] => []
  | 0, n :: ns => (n + 1) :: ns
  | k + 1, n :: ns => n :: inc k ns
def dec : Nat → List Nat → List Nat
  | _, [] => []
  | 0, n :: ns => (n - 1) :: ns
  | k + 1, n :: ns => n :: dec k ns

theorem at_zero (a : Nat) (l : List Nat) : at_ (a :: l) 0 = a := rfl
theorem at_succ (a : Nat) (l : List Nat) (k : Nat) : at_ (a :: l) (k + 1) = at_ l k := by simp [at_]
theorem at_mem {l : List Nat} {k : Nat} (h : k < l.length) : at_ l k ∈ l := by
  unfold at_; rw [List.getD_eq_getElem?_getD, List.getElem?_eq_getElem h]; exact List.getElem_mem h
theorem mem_at {l : List Nat} {x : Nat} (h : x ∈ l) : ∃ k, k < l.length ∧ at_ l k = x := by
  obtain ⟨k, hk, rfl⟩ := List.getElem_of_mem h
  exact ⟨k, hk, by simp [at_, List.getD_eq_getElem?_getD, hk]⟩

theorem OkD.tail {c d : Nat} {r : List Nat} (h : OkD (c :: d :: r)) : OkD (d :: r) := h.2
theorem OkD.pos {D : List Nat} (h : OkD D) : ∀ c ∈ D, 1 ≤ c := by
  induction D with
  | nil => exact h.elim
  | cons c r ih =>
    cases r with
    | nil => intro x hx; simp at hx; have : c = 1 := h; omega
    | cons d r =>
      intro x hx
      rcases List.mem_cons.1 hx with rfl | hx
      · have := ih h.tail d List.mem_cons_self; have := h.1; omega
      · exact ih h.tail x hx
theorem OkD.lt {D : List Nat} (h : OkD D) : ∀ j k, j < k → k < D.length → at_ D k < at_ D j := by
  induction D with
  | nil => exact h.elim
  | cons c r ih =>
    cases r with
    | nil => intro j k hj hk; simp at hk; omega
    | cons d r =>
      intro j k hj hk
      cases k with
      | zero => omega
      | succ k =>
        rw [at_succ]
        cases j with
        | zero =>
          rw [at_zero]
          cases k with
          | zero => rw [at_zero]; exact h.1
          | succ k => have := ih h.tail 0 (k + 1) (by omega) (by simpa using hk); rw [at_zero] at this; have := h.1; omega
        | succ j => rw [at_succ]; exact ih h.tail j k (by omega) (by simpa using hk)
theorem OkD.ne_nil {D : List Nat} (h : OkD D) : 0 < D.length := by
  cases D with
  | nil => exact h.elim
  | cons c r => simp
theorem OkD.le {D : List Nat} (h : OkD D) (j k : Nat) (hj : j ≤ k) (hk : k < D.length) : at_ D k ≤ at_ D j := by
  rcases Nat.lt_or_eq_of_le hj with h1 | rfl
  · exact Nat.le_of_lt (h.lt j k h1 hk)
  · exact Nat.le_refl _

theorem G_len (D : List Nat) (x : Nat) : (G D x).length = D.length := by
  induction D generalizing x with
  | nil => rfl
  | cons c cs ih => simp [G, ih]
theorem val_G {D : List Nat} (h : OkD D) (x : Nat) : val D (G D x) = x := by
  induction D generalizing x with
  | nil => exact h.elim
  | cons c r ih =>
    cases r with
    | nil => obtain rfl : c = 1 := h; simp [G, val]
    | cons d r =>
      have h1 := ih h.tail (x % c)
      have h2 : G (c :: d :: r) x = x / c :: G (d :: r) (x % c) := rfl
      rw [h2]
      simp only [val]
      rw [h1]
      have := Nat.div_add_mod x c
      rw [Nat.mul_comm] at this
      exact this
/-- the lexicographic order from the greatest coin on -/
def LexLe : List Nat → List Nat → Prop
  | a :: as, b :: bs => a < b ∨ (a = b ∧ LexLe as bs)
  | _, _ => True
def LexLt : List Nat → List Nat → Prop
  | a :: as, b :: bs => a < b ∨ (a = b ∧ LexLt as bs)
  | _, _ => False
theorem G_mono (D : List Nat) (x y : Nat) (h : x ≤ y) : LexLe (G D x) (G D y) := by
  induction D generalizing x y with
  | nil => trivial
  | cons c cs ih =>
    simp only [G, LexLe]
    rcases Nat.lt_or_eq_of_le (Nat.div_le_div_right (c := c) h) with h1 | h1
    · exact .inl h1
    · refine .inr ⟨h1, ih _ _ ?_⟩
      have a := Nat.div_add_mod x c
      have b := Nat.div_add_mod y c
      rw [h1] at a
      omega
theorem G_strict {D : List Nat} (hD : OkD D) (x y : Nat) (h : x < y) : LexLt (G D x) (G D y) := by
  induction D generalizing x y with
  | nil => exact hD.elim
  | cons c r ih =>
    simp only [G, LexLt]
    cases r with
    | nil => obtain rfl : c = 1 := hD; left; simpa using h
    | cons d r =>
      rcases Nat.lt_or_eq_of_le (Nat.div_le_div_right (c := c) (Nat.le_of_lt h)) with h1 | h1
      · exact .inl h1
      · refine .inr ⟨h1, ih hD.tail _ _ ?_⟩
        have a := Nat.div_add_mod x c
        have b := Nat.div_add_mod y c
        rw [h1] at a
        omega
theorem LexLt_inc (k : Nat) (a b : List Nat) (h : LexLt a b) : LexLt (inc k a) (inc k b) := by
  induction a generalizing k b with
  | nil => cases b <;> exact h.elim
  | cons x as ih =>
    cases b with
    | nil => exact h.elim
    | cons y bs =>
      cases k with
      | zero =>
        simp only [inc, LexLt] at h ⊢
        rcases h with h | ⟨h1, h2⟩
        · exact .inl (by omega)
        · exact .inr ⟨by omega, h2⟩
      | succ k =>
        simp only [inc, LexLt] at h ⊢
        rcases h with h | ⟨h1, h2⟩
        · exact .inl h
        · exact .inr ⟨h1, ih k bs h2⟩

theorem len_inc (k : Nat) (a : List Nat) : (inc k a).length = a.length := by
  induction a generalizing k with
  | nil => cases k <;> rfl
  | cons x as ih => cases k <;> simp [inc, ih]
theorem len_dec (k : Nat) (a : List Nat) : (dec k a).length = a.length := by
  induction a generalizing k with
  | nil => cases k <;> rfl
  | cons x as ih => cases k <;> simp [dec, ih]
theorem inc_dec (k : Nat) (a : List Nat) (h : 0 < at_ a k) : inc k (dec k a) = a := by
  induction a generalizing k with
  | nil => cases k <;> rfl
  | cons x as ih =>
    cases k with
    | zero => rw [at_zero] at h; simp [inc, dec]; omega
    | succ k => rw [at_succ] at h; simp [inc, dec, ih k h]
theorem inc_comm (j k : Nat) (a : List Nat) : inc j (inc k a) = inc k (inc j a) := by
  induction a generalizing j k with
  | nil => cases j <;> cases k <;> rfl
  | cons x as ih => cases j <;> cases k <;> simp [inc, ih]
theorem sum_inc (k : Nat) (a : List Nat) (h : k < a.length) : (inc k a).sum = a.sum + 1 := by
  induction a generalizing k with
  | nil => simp at h
  | cons x as ih =>
    cases k with
    | zero => simp [inc]; omega
    | succ k => simp [inc, ih k (by simpa using h)]; omega
theorem val_inc (k : Nat) (D a : List Nat) (h : k < a.length) (hl : a.length = D.length) : val D (inc k a) = val D a + at_ D k := by
  induction a generalizing k D with
  | nil => simp at h
  | cons x as ih =>
    cases D with
    | nil => simp at hl
    | cons c cs =>
      cases k with
      | zero => simp only [inc, val, at_zero]; rw [Nat.add_mul]; omega
      | succ k => simp only [inc, val, at_succ]; rw [ih k cs (by simpa using h) (by simpa using hl)]; omega
theorem at_lt_of_pos {a : List Nat} {k : Nat} (h : 0 < at_ a k) : k < a.length := by
  rcases Nat.lt_or_ge k a.length with h1 | h1
  · exact h1
  · unfold at_ at h; rw [List.getD_eq_getElem?_getD, List.getElem?_eq_none h1] at h; simp at h
theorem sum_dec (k : Nat) (a : List Nat) (h : 0 < at_ a k) : (dec k a).sum + 1 = a.sum := by
  have h1 := sum_inc k (dec k a) (by rw [len_dec]; exact at_lt_of_pos h)
  rw [inc_dec k a h] at h1
  omega

/-- without one of its coins a greedy change is the greedy change of what is left -/
theorem G_dec {D : List Nat} (hD : ∀ c ∈ D, 1 ≤ c) (x k : Nat) (h : 0 < at_ (G D x) k) : at_ D k ≤ x ∧ G D (x - at_ D k) = dec k (G D x) := by
  induction D generalizing x k with
  | nil => simp [G, at_] at h
  | cons c cs ih =>
    have hc := hD c List.mem_cons_self
    cases k with
    | zero =>
      simp only [G, at_zero] at h ⊢
      have h1 : c ≤ x := by
        rcases Nat.lt_or_ge x c with h2 | h2
        · rw [Nat.div_eq_of_lt h2] at h; omega
        · exact h2
      refine ⟨h1, ?_⟩
      simp only [dec]
      obtain ⟨y, rfl⟩ : ∃ y, x = y + c := ⟨x - c, by omega⟩
      rw [Nat.add_sub_cancel, Nat.add_mod_right, Nat.add_div_right _ (by omega)]
      rfl
    | succ k =>
      simp only [G, at_succ] at h ⊢
      obtain ⟨h1, h2⟩ := ih (fun d hd => hD d (List.mem_cons_of_mem _ hd)) (x % c) k h
      have h3 := Nat.mod_lt x (show 0 < c by omega)
      have h4 := Nat.div_add_mod x c
      refine ⟨by omega, ?_⟩
      simp only [dec]
      have e : x - at_ cs k = c * (x / c) + (x % c - at_ cs k) := by omega
      have q1 : (x - at_ cs k) / c = x / c := by
        rw [e, Nat.add_comm, Nat.add_mul_div_left _ _ (by omega), Nat.div_eq_of_lt (by omega)]; omega
      have q2 : (x - at_ cs k) % c = x % c - at_ cs k := by
        rw [e, Nat.add_comm, Nat.add_mul_mod_self_left, Nat.mod_eq_of_lt (by omega)]
      rw [q1, q2, h2]
/-- the first coin that fits is taken -/
theorem G_first {D : List Nat} (hD : ∀ c ∈ D, 1 ≤ c) (x t : Nat) (ht : t < D.length) (h : at_ D t ≤ x) (hs : ∀ s, s < t → x < at_ D s) : 0 < at_ (G D x) t := by
  induction D generalizing x t with
  | nil => simp at ht
  | cons c cs ih =>
    have hc := hD c List.mem_cons_self
    cases t with
    | zero =>
      rw [at_zero] at h
      simp only [G, at_zero]
      exact Nat.div_pos h hc
    | succ t =>
      have h0 := hs 0 (by omega)
      rw [at_zero] at h0
      rw [at_succ] at h
      simp only [G, at_succ]
      rw [Nat.mod_eq_of_lt h0]
      exact ih (fun d hd => hD d (List.mem_cons_of_mem _ hd)) x t (by simpa using ht) h (fun s hs' => by have := hs (s + 1) (by omega); rwa [at_succ] at this)
theorem first_fit (D : List Nat) (x s : Nat) (hs : s < D.length) (h : at_ D s ≤ x) : ∃ t, t ≤ s ∧ at_ D t ≤ x ∧ ∀ r, r < t → x < at_ D r := by
  induction s using Nat.strongRecOn with
  | ind s ih =>
    by_cases c : ∃ r, r < s ∧ at_ D r ≤ x
    · obtain ⟨r, h1, h2⟩ := c
      obtain ⟨t, h3, h4⟩ := ih r h1 (by omega) h2
      exact ⟨t, by omega, h4⟩
    · exact ⟨s, Nat.le_refl _, h, fun r hr => Nat.lt_of_not_le fun h1 => c ⟨r, hr, h1⟩⟩

/-- the least numbers of coins -/
structure IsFew (D : List Nat) (f : Nat → Nat) : Prop where
  zero : f 0 = 0
  le : ∀ a c, c ∈ D → c ≤ a → f a ≤ f (a - c) + 1
  ex : ∀ a, 0 < a → ∃ c, c ∈ D ∧ c ≤ a ∧ f a = f (a - c) + 1
theorem IsFew.add {D : List Nat} {f : Nat → Nat} (h : IsFew D f) {c : Nat} (hc : c ∈ D) (n x : Nat) : f (x + n * c) ≤ f x + n := by
  induction n with
  | zero => simp
  | succ n ih =>
    have h1 := h.le (x + (n + 1) * c) c hc (by rw [Nat.add_mul]; omega)
    rw [show x + (n + 1) * c - c = x + n * c from by rw [Nat.add_mul]; omega] at h1
    omega
/-- no change has fewer coins -/
theorem IsFew.rep {D : List Nat} {f : Nat → Nat} (h : IsFew D f) (v : List Nat) : f (val D v) ≤ v.sum := by
  have key : ∀ (E v : List Nat) (x : Nat), (∀ c ∈ E, c ∈ D) → f (x + val E v) ≤ f x + v.sum := by
    intro E
    induction E with
    | nil => intro v x _; simp [val]
    | cons c cs ih =>
      intro v x hE
      cases v with
      | nil => simp [val]
      | cons n ns =>
        simp only [val]
        have h1 := ih ns (x + n * c) (fun d hd => hE d (List.mem_cons_of_mem _ hd))
        have h2 := h.add (hE c List.mem_cons_self) n x
        rw [← Nat.add_assoc]
        simp only [List.sum_cons]
        omega
  have h1 := key D v 0 (fun _ h => h)
  rw [h.zero, Nat.zero_add, Nat.zero_add] at h1
  exact h1
/-- the number of coins of the greedy change -/
def g (D : List Nat) (x : Nat) : Nat := (G D x).sum
theorem few_le_g {D : List Nat} {f : Nat → Nat} (hD : OkD D) (h : IsFew D f) (x : Nat) : f x ≤ g D x := by
  have := h.rep (G D x)
  rwa [val_G hD] at this

/-! ### the least amount for which greed fails -/
section
variable {D : List Nat} {f : Nat → Nat} {w : Nat}
/-- a coin that a least change of w may hold -/
def Oc (D : List Nat) (f : Nat → Nat) (w k : Nat) : Prop := k < D.length ∧ at_ D k ≤ w ∧ f w = f (w - at_ D k) + 1

theorem oc_of_rest (hD : OkD D) (hf : IsFew D f) (hmin : ∀ a, a < w → f a = g D a) {k m : Nat} (hk : Oc D f w k) (hm : 0 < at_ (G D (w - at_ D k)) m) : Oc D f w m := by
  obtain ⟨k1, k2, k3⟩ := hk
  have hp := hD.pos _ (at_mem k1)
  have hml : m < D.length := by have := at_lt_of_pos hm; rwa [G_len] at this
  obtain ⟨h1, h2⟩ := G_dec hD.pos _ _ hm
  have h3 := hmin (w - at_ D k) (by omega)
  have h4 := sum_dec m _ hm
  rw [← h2] at h4
  have h5 : f (w - at_ D m) ≤ f (w - at_ D k - at_ D m) + 1 := by
    have := hf.le (w - at_ D m) (at_ D k) (at_mem k1) (by omega)
    rwa [show w - at_ D m - at_ D k = w - at_ D k - at_ D m from by omega] at this
  have h6 := few_le_g hD hf (w - at_ D k - at_ D m)
  unfold g at h3 h6
  have h7 := hf.le w (at_ D m) (at_mem hml) (by omega)
  exact ⟨hml, by omega, by omega⟩
theorem not_oc_of_greedy (hD : OkD D) (hmin : ∀ a, a < w → f a = g D a) (hw : f w < g D w) {m : Nat} (hm : 0 < at_ (G D w) m) : ¬ Oc D f w m := by
  rintro ⟨h0, h1, h2⟩
  obtain ⟨_, h3⟩ := G_dec hD.pos _ _ hm
  have hp := hD.pos _ (at_mem h0)
  have h4 := sum_dec m _ hm
  rw [← h3] at h4
  have h5 := hmin (w - at_ D m) (by omega)
  unfold g at h5 hw
  omega

theorem sandwich (j : Nat) : ∀ (u gb : List Nat), u.length = gb.length → j < u.length → LexLe u gb → LexLt gb (inc j u) → (∀ s, j < s → at_ u s = 0) → u = gb.take (j + 1) ++ List.replicate (u.length - (j + 1)) 0 := by
  induction j with
  | zero =>
    intro u gb hl hj h1 h2 h3
    cases u with
    | nil => simp at hj
    | cons x u =>
      cases gb with
      | nil => simp at hl
      | cons y gb =>
        simp only [inc, LexLe, LexLt] at h1 h2
        have hz : u = List.replicate u.length 0 := by
          apply List.ext_getElem
          · simp
          · intro s a b
            have := h3 (s + 1) (by omega)
            rw [at_succ] at this
            simpa [at_, List.getD_eq_getElem?_getD, a] using this
        have hlt : ∀ (a : List Nat) (n : Nat), ¬ LexLt a (List.replicate n 0) := by
          intro a
          induction a with
          | nil => intro n h; cases n <;> exact h.elim
          | cons b bs ih =>
            intro n h
            cases n with
            | zero => exact h.elim
            | succ n =>
              simp only [List.replicate_succ, LexLt] at h
              rcases h with h | ⟨_, h⟩
              · omega
              · exact ih n h
        have hxy : x = y := by
          rcases h1 with h1 | ⟨h1, _⟩
          · rcases h2 with h2 | ⟨_, h2⟩
            · omega
            · rw [hz] at h2; exact absurd h2 (hlt _ _)
          · exact h1
        subst hxy
        simp
        exact hz
  | succ j ih =>
    intro u gb hl hj h1 h2 h3
    cases u with
    | nil => simp at hj
    | cons x u =>
      cases gb with
      | nil => simp at hl
      | cons y gb =>
        simp only [inc, LexLe, LexLt] at h1 h2
        have hxy : x = y ∧ LexLe u gb ∧ LexLt gb (inc j u) := by
          rcases h1 with h1 | ⟨h1, h1'⟩
          · rcases h2 with h2 | ⟨h2, _⟩ <;> omega
          · rcases h2 with h2 | ⟨_, h2⟩
            · omega
            · exact ⟨h1, h1', h2⟩
        obtain ⟨rfl, h4, h5⟩ := hxy
        have := ih u gb (by simpa using hl) (by simpa using hj) h4 h5 (fun s hs => by have := h3 (s + 1) (by omega); rwa [at_succ] at this)
        simp only [List.take_succ_cons, List.cons_append, List.length_cons]
        rw [show u.length + 1 - (j + 1 + 1) = u.length - (j + 1) from by omega]
        exact congrArg _ this

/-- the last coin of a change -/
theorem last_pos (v : List Nat) (h : 0 < v.sum) : ∃ j, 0 < at_ v j ∧ ∀ s, j < s → at_ v s = 0 := by
  induction v with
  | nil => simp at h
  | cons x v ih =>
    by_cases c : 0 < v.sum
    · obtain ⟨j, h1, h2⟩ := ih c
      refine ⟨j + 1, by rw [at_succ]; exact h1, fun s hs => ?_⟩
      obtain ⟨s, rfl⟩ : ∃ q, s = q + 1 := ⟨s - 1, by omega⟩
      rw [at_succ]; exact h2 s (by omega)
    · have hx : 0 < x := by simp at h; omega
      refine ⟨0, hx, fun s hs => ?_⟩
      obtain ⟨s, rfl⟩ : ∃ q, s = q + 1 := ⟨s - 1, by omega⟩
      rw [at_succ]
      rcases Nat.lt_or_ge s v.length with h1 | h1
      · have : at_ v s ∈ v := at_mem h1
        have h2 : v.sum = 0 := by omega
        have := (List.sum_eq_zero_iff_forall_eq_nat.1 h2) _ this
        exact this
      · unfold at_; rw [List.getD_eq_getElem?_getD, List.getElem?_eq_none h1]; rfl

/-- Pearson: the least amount for which greed fails is, for some coin D_(p-1) and some smaller coin D_j, the greedy change of D_(p-1) - 1, cut behind D_j, with one D_j more; this change is a least one. -/
theorem pearson (hD : OkD D) (hf : IsFew D f) (hmin : ∀ a, a < w → f a = g D a) (hw : f w < g D w) :
    ∃ p j, 1 ≤ p ∧ p ≤ j ∧ j < D.length ∧ w < at_ D (p - 1) + at_ D p ∧
      w = val D ((G D (at_ D (p - 1) - 1)).take (j + 1) ++ List.replicate (D.length - (j + 1)) 0) + at_ D j ∧
      f w = ((G D (at_ D (p - 1) - 1)).take (j + 1) ++ List.replicate (D.length - (j + 1)) 0).sum + 1 := by
  have w0 : 0 < w := by
    rcases Nat.eq_zero_or_pos w with rfl | h
    · have hv := val_G hD 0
      have hz : (G D 0).sum = 0 := by
        have : ∀ (E : List Nat), (G E 0).sum = 0 := by
          intro E
          induction E with
          | nil => rfl
          | cons c cs ih => simp [G, ih]
        exact this D
      unfold g at hw
      rw [hz] at hw
      omega
    · exact h
  obtain ⟨c, hc, hcw, hcf⟩ := hf.ex w w0
  obtain ⟨k, hk, rfl⟩ := mem_at hc
  -- the greatest such coin
  obtain ⟨p, hp, hpm⟩ : ∃ p, Oc D f w p ∧ ∀ s, s < p → ¬ Oc D f w s := by
    have : ∀ k, Oc D f w k → ∃ p, Oc D f w p ∧ ∀ s, s < p → ¬ Oc D f w s := by
      intro k
      induction k using Nat.strongRecOn with
      | ind k ih =>
        intro hk
        by_cases c : ∃ r, r < k ∧ Oc D f w r
        · obtain ⟨r, h1, h2⟩ := c
          exact ih r h1 h2
        · exact ⟨k, hk, fun s hs h => c ⟨s, hs, h⟩⟩
    exact this k ⟨hk, hcw, hcf⟩
  -- no greater coin fits what is left behind such a coin
  have fit : ∀ m, Oc D f w m → ∀ s, s < p → w - at_ D m < at_ D s := by
    intro m hm s hs
    refine Nat.lt_of_not_le fun hle => ?_
    obtain ⟨t, t1, t2, t3⟩ := first_fit D (w - at_ D m) s (by have := hp.1; omega) hle
    have h1 := G_first hD.pos (w - at_ D m) t (by have := hp.1; omega) t2 t3
    exact hpm t (by omega) (oc_of_rest hD hf hmin hm h1)
  -- p is not 0, and the coin above fits w
  obtain ⟨t, t1, t2, t3⟩ := first_fit D w p hp.1 hp.2.1
  have ht := G_first hD.pos w t (by have := hp.1; omega) t2 t3
  have htp : t ≠ p := fun e => not_oc_of_greedy hD hmin hw ht (e ▸ hp)
  have hp1 : 1 ≤ p := by omega
  have hpw : at_ D (p - 1) ≤ w := Nat.le_trans (hD.le t (p - 1) (by omega) (by have := hp.1; omega)) t2
  have hpl := hp.1
  have hpp := hD.pos _ (at_mem hp.1)
  -- the last coin of the change
  obtain ⟨j, hj, hj0⟩ := last_pos (inc p (G D (w - at_ D p))) (by rw [sum_inc p _ (by rw [G_len]; exact hpl)]; omega)
  have hjl : j < D.length := by have := at_lt_of_pos hj; rwa [len_inc, G_len] at this
  have at_inc_ne : ∀ (a : List Nat) (k s : Nat), s ≠ k → at_ (inc k a) s = at_ a s := by
    intro a
    induction a with
    | nil => intro k s _; cases k <;> rfl
    | cons x as ih =>
      intro k s hs
      cases k with
      | zero =>
        obtain ⟨s, rfl⟩ : ∃ q, s = q + 1 := ⟨s - 1, by omega⟩
        simp only [inc, at_succ]
      | succ k =>
        cases s with
        | zero => simp only [inc, at_zero]
        | succ s => simp only [inc, at_succ]; exact ih k s (by omega)
  have at_inc_eq : ∀ (a : List Nat) (k : Nat), k < a.length → at_ (inc k a) k = at_ a k + 1 := by
    intro a
    induction a with
    | nil => intro k h; simp at h
    | cons x as ih =>
      intro k h
      cases k with
      | zero => simp only [inc, at_zero]
      | succ k => simp only [inc, at_succ]; exact ih k (by simpa using h)
  have hpj : p ≤ j := by
    refine Nat.le_of_not_lt fun h => ?_
    have h1 := hj0 p h
    rw [at_inc_eq _ _ (by rw [G_len]; exact hpl)] at h1
    omega
  -- the change without its last coin is greedy
  have hU : Oc D f w j ∧ inc j (G D (w - at_ D j)) = inc p (G D (w - at_ D p)) := by
    by_cases e : j = p
    · subst e; exact ⟨hp, rfl⟩
    · rw [at_inc_ne _ _ _ e] at hj
      have hoj := oc_of_rest hD hf hmin hp hj
      obtain ⟨d1, d2⟩ := G_dec hD.pos _ _ hj
      have h1 : 0 < at_ (G D (w - at_ D j)) p := G_first hD.pos _ p hpl (by have := hp.2.1; omega) (fun s hs => fit j hoj s hs)
      obtain ⟨e1, e2⟩ := G_dec hD.pos _ _ h1
      refine ⟨hoj, ?_⟩
      have e3 : dec p (G D (w - at_ D j)) = dec j (G D (w - at_ D p)) := by
        rw [← d2, ← e2]; congr 1; omega
      rw [← inc_dec p _ h1, e3, inc_comm, inc_dec j _ hj]
  obtain ⟨hoj, hV⟩ := hU
  have hjp := hD.pos _ (at_mem hjl)
  -- between the two
  have hb1 : at_ D p < at_ D (p - 1) := hD.lt (p - 1) p (by omega) hpl
  have hle : LexLe (G D (w - at_ D j)) (G D (at_ D (p - 1) - 1)) := G_mono D _ _ (by have := fit j hoj (p - 1) (by omega); omega)
  have hbp : 0 < at_ (G D (at_ D (p - 1) - 1)) p := G_first hD.pos _ p hpl (by omega) (fun s hs => by have := hD.le s (p - 1) (by omega) (by omega); omega)
  obtain ⟨b1, b2⟩ := G_dec hD.pos _ _ hbp
  have hlt : LexLt (G D (at_ D (p - 1) - 1)) (inc j (G D (w - at_ D j))) := by
    rw [hV, ← inc_dec p _ hbp, ← b2]
    exact LexLt_inc p _ _ (G_strict hD _ _ (by omega))
  have hz : ∀ s, j < s → at_ (G D (w - at_ D j)) s = 0 := fun s hs => by
    have h1 := hj0 s hs
    rw [← hV, at_inc_ne _ _ _ (by omega)] at h1
    exact h1
  have hs := sandwich j _ _ (by rw [G_len, G_len]) (by rw [G_len]; exact hjl) hle hlt hz
  rw [G_len] at hs
  refine ⟨p, j, hp1, hpj, hjl, by have := fit p hp (p - 1) (by omega); have := hp.2.1; omega, ?_, ?_⟩
  · rw [← hs, val_G hD]; have := hoj.2.1; omega
  · rw [← hs]
    have h1 := hmin (w - at_ D j) (by have := hoj.2.1; omega)
    unfold g at h1
    rw [← h1]; exact hoj.2.2
end
end Go.Proofs.Ytgbalmjnjpfopaa.M
