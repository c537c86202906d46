/- Parking, in plain numbers: customers who walk on to the next free chair. In whatever order they come, the same chairs are taken; everybody sits below n exactly if for each k at least k wish a chair below k. -/
namespace Go.Proofs.Ytfopeenjpdaacaa.MPark

/-- c is the first chair from w on that is free -/
structure Nx (S : Nat → Bool) (w c : Nat) : Prop where
  le : w ≤ c
  free : S c = false
  full : ∀ j, w ≤ j → j < c → S j = true
def up (S : Nat → Bool) (c : Nat) : Nat → Bool := fun j => if j = c then true else S j
theorem up_eq (S : Nat → Bool) (c : Nat) : up S c c = true := by simp [up]
theorem up_ne {S : Nat → Bool} {c j : Nat} (h : j ≠ c) : up S c j = S j := by simp [up, h]
theorem up_true {S : Nat → Bool} {c j : Nat} (h : S j = true) : up S c j = true := by unfold up; split <;> simp [h]
theorem Nx.uniq {S : Nat → Bool} {w c d : Nat} (h : Nx S w c) (k : Nx S w d) : c = d := by
  rcases Nat.lt_trichotomy c d with e | e | e
  · have := k.full c h.le e; rw [h.free] at this; cases this
  · exact e
  · have := h.full d k.le e; rw [k.free] at this; cases this
theorem Nx.ex {S : Nat → Bool} {B : Nat} (hB : ∀ c, B ≤ c → S c = false) : ∀ (d w : Nat), B ≤ w + d → ∃ c, Nx S w c
  | 0, w, h => ⟨w, Nat.le_refl _, hB w h, fun j h1 h2 => by omega⟩
  | d + 1, w, h => by
    cases hw : S w with
    | false => exact ⟨w, Nat.le_refl _, hw, fun j h1 h2 => by omega⟩
    | true =>
      obtain ⟨c, h1, h2, h3⟩ := Nx.ex hB d (w + 1) (by omega)
      refine ⟨c, by omega, h2, fun j h4 h5 => ?_⟩
      by_cases e : j = w
      · rw [e]; exact hw
      · exact h3 j (by omega) h5
/-- all come one after the other: the wishes, what is taken before and behind, the chairs -/
inductive Park : List Nat → (Nat → Bool) → (Nat → Bool) → List Nat → Prop
  | nil (S : Nat → Bool) : Park [] S S []
  | cons {S S' : Nat → Bool} {w c : Nat} {ws cs : List Nat} (h : Nx S w c) (k : Park ws (up S c) S' cs) : Park (w :: ws) S S' (c :: cs)
theorem Park.ex (ws : List Nat) : ∀ (S : Nat → Bool) (B : Nat), (∀ c, B ≤ c → S c = false) → ∃ S' cs, Park ws S S' cs := by
  induction ws with
  | nil => exact fun S _ _ => ⟨S, [], .nil S⟩
  | cons w ws ih =>
    intro S B hB
    obtain ⟨c, hc⟩ := Nx.ex hB B w (by omega)
    obtain ⟨S', cs, h⟩ := ih (up S c) (max B (c + 1)) (fun j hj => by rw [up_ne (by omega)]; exact hB j (by omega))
    exact ⟨S', c :: cs, .cons hc h⟩
theorem Park.uniq {ws : List Nat} : ∀ {S S1 S2 : Nat → Bool} {cs ds : List Nat}, Park ws S S1 cs → Park ws S S2 ds → S1 = S2 ∧ cs = ds := by
  induction ws with
  | nil => intro S S1 S2 cs ds h k; cases h; cases k; exact ⟨rfl, rfl⟩
  | cons w ws ih =>
    intro S S1 S2 cs ds h k
    cases h with
    | cons h h' =>
      cases k with
      | cons k k' =>
        obtain rfl := h.uniq k
        obtain ⟨e1, e2⟩ := ih h' k'
        exact ⟨e1, by rw [e2]⟩
theorem up_comm (S : Nat → Bool) (a b : Nat) : up (up S a) b = up (up S b) a := by
  funext j
  unfold up
  by_cases h1 : j = b <;> by_cases h2 : j = a <;> simp [h1, h2]
/-- two who come one after the other may change places -/
theorem swap {S : Nat → Bool} {x y a b : Nat} (h : Nx S x a) (k : Nx (up S a) y b) : ∃ a' b', Nx S y a' ∧ Nx (up S a') x b' ∧ up (up S a') b' = up (up S a) b := by
  have hab : b ≠ a := fun e => by have := k.free; rw [e, up_eq] at this; cases this
  have hb : S b = false := by have := k.free; rwa [up_ne hab] at this
  by_cases c : y ≤ a ∧ ∀ j, y ≤ j → j < a → S j = true
  · refine ⟨a, b, ⟨c.1, h.free, c.2⟩, ⟨?_, k.free, fun j h1 h2 => ?_⟩, rfl⟩
    · have h1 := h.le
      rcases Nat.lt_or_ge b a with e | e
      · have := c.2 b k.le e; rw [hb] at this; cases this
      · omega
    · by_cases e : j < a
      · exact up_true (h.full j h1 e)
      · exact k.full j (by omega) h2
  · refine ⟨b, a, ⟨k.le, hb, fun j h1 h2 => ?_⟩, ⟨h.le, by rw [up_ne (fun e => hab e.symm)]; exact h.free, fun j h1 h2 => up_true (h.full j h1 h2)⟩, up_comm _ _ _⟩
    have h3 := k.full j h1 h2
    by_cases e : j = a
    · exfalso
      subst e
      refine c ⟨h1, fun i h4 h5 => ?_⟩
      have := k.full i h4 (by omega)
      rwa [up_ne (by omega)] at this
    · rwa [up_ne e] at h3
theorem Park.perm {ws vs : List Nat} (hp : ws.Perm vs) : ∀ {S S1 : Nat → Bool} {cs : List Nat}, Park ws S S1 cs → ∃ ds, Park vs S S1 ds := by
  induction hp with
  | nil => exact fun h => ⟨_, h⟩
  | cons w _ ih =>
    intro S S1 cs h
    cases h with
    | cons h k =>
      obtain ⟨ds, h1⟩ := ih k
      exact ⟨_, .cons h h1⟩
  | swap x y l =>
    intro S S1 cs h
    cases h with
    | cons h k =>
      cases k with
      | cons k k' =>
        obtain ⟨a', b', h1, h2, h3⟩ := MPark.swap h k
        rw [← h3] at k'
        exact ⟨_, .cons h1 (.cons h2 k')⟩
  | trans _ _ ih1 ih2 =>
    intro S S1 cs h
    obtain ⟨ds, h1⟩ := ih1 h
    exact ih2 h1
theorem Park.length {ws : List Nat} {S S1 : Nat → Bool} {cs : List Nat} (h : Park ws S S1 cs) : cs.length = ws.length := by
  induction h with
  | nil => rfl
  | cons _ _ ih => simp [ih]
/-- how often a chair is given -/
theorem Park.count {ws : List Nat} {S S1 : Nat → Bool} {cs : List Nat} (h : Park ws S S1 cs) (j : Nat) : cs.count j + (if S j = true then 1 else 0) = if S1 j = true then 1 else 0 := by
  induction h with
  | nil => simp
  | @cons S S' w c ws cs h _ ih =>
    rw [← ih, List.count_cons]
    by_cases e : j = c
    · subst e
      rw [up_eq, h.free]; simp
    · rw [up_ne e]
      have : (c == j) = false := beq_eq_false_iff_ne.2 (fun g => e g.symm)
      rw [this]; simp
theorem Park.mem {ws : List Nat} {S S1 : Nat → Bool} {cs : List Nat} (h : Park ws S S1 cs) (j : Nat) (h0 : S j = false) : j ∈ cs ↔ S1 j = true := by
  have := h.count j
  rw [h0] at this
  rw [← List.count_pos_iff]
  cases hs : S1 j with
  | true => rw [hs, if_pos rfl, if_neg (by simp)] at this; simp only [Nat.add_zero] at this; rw [this]; simp
  | false => rw [hs, if_neg (by simp)] at this; simp only [Nat.add_zero] at this; rw [this]; simp
/-- those that are taken below a chair -/
def cnt (S : Nat → Bool) : Nat → Nat
  | 0 => 0
  | k + 1 => cnt S k + if S k = true then 1 else 0
theorem cnt_le (S : Nat → Bool) (k : Nat) : cnt S k ≤ k := by
  induction k with
  | zero => simp [cnt]
  | succ k ih => simp only [cnt]; split <;> omega
theorem cnt_up {S : Nat → Bool} {c : Nat} (h : S c = false) (k : Nat) : cnt (up S c) k = cnt S k + if c < k then 1 else 0 := by
  induction k with
  | zero => simp [cnt]
  | succ k ih =>
    simp only [cnt, ih]
    by_cases e : k = c
    · subst e; rw [up_eq, h]; simp
    · rw [up_ne e]
      split <;> split <;> split <;> omega
theorem cnt_full {S : Nat → Bool} (n : Nat) (h : cnt S n = n) : ∀ j, j < n → S j = true := by
  induction n with
  | zero => intro j hj; omega
  | succ n ih =>
    simp only [cnt] at h
    have := cnt_le S n
    intro j hj
    cases hs : S n with
    | false => rw [hs] at h; simp at h; omega
    | true =>
      rw [hs] at h; simp at h
      by_cases e : j = n
      · rw [e]; exact hs
      · exact ih h j (by omega)
theorem cnt_of_full {S : Nat → Bool} (n : Nat) (h : ∀ j, j < n → S j = true) : cnt S n = n := by
  induction n with
  | zero => rfl
  | succ n ih => simp only [cnt]; rw [ih (fun j hj => h j (by omega)), h n (by omega)]; simp
theorem cnt_gap {S : Nat → Bool} (n : Nat) (h : cnt S n < n) : ∃ c, c < n ∧ S c = false := by
  induction n with
  | zero => omega
  | succ n ih =>
    cases hs : S n with
    | false => exact ⟨n, by omega, hs⟩
    | true =>
      simp only [cnt] at h
      rw [hs] at h; simp at h
      obtain ⟨c, h1, h2⟩ := ih (by omega)
      exact ⟨c, by omega, h2⟩
theorem Park.cnt {ws : List Nat} {S S1 : Nat → Bool} {cs : List Nat} (h : Park ws S S1 cs) (k : Nat) : cnt S1 k = cnt S k + cs.countP (fun c => decide (c < k)) := by
  induction h with
  | nil => simp
  | @cons S S' w c ws cs h _ ih => rw [ih, cnt_up h.free, List.countP_cons]; by_cases e : c < k <;> simp [e] <;> omega
theorem Park.cnt_le {ws : List Nat} {S S1 : Nat → Bool} {cs : List Nat} (h : Park ws S S1 cs) (k : Nat) : MPark.cnt S1 k ≤ MPark.cnt S k + ws.countP (fun c => decide (c < k)) := by
  induction h with
  | nil => simp
  | @cons S S' w c ws cs h _ ih =>
    have := h.le
    rw [cnt_up h.free] at ih
    rw [List.countP_cons]
    by_cases e : w < k <;> by_cases e' : c < k <;> simp [e, e'] at ih ⊢ <;> omega
theorem Park.keep {ws : List Nat} {S S1 : Nat → Bool} {cs : List Nat} (h : Park ws S S1 cs) (j : Nat) (hj : S1 j = false) : S j = false := by
  have := h.count j
  rw [hj] at this
  cases hs : S j with
  | false => rfl
  | true => rw [hs] at this; simp at this
/-- nobody passes a chair that stays free -/
theorem Park.free {ws : List Nat} {S S1 : Nat → Bool} {cs : List Nat} (h : Park ws S S1 cs) (e : Nat) (he : S1 e = false) : MPark.cnt S1 e = MPark.cnt S e + ws.countP (fun c => decide (c < e + 1)) := by
  induction h with
  | nil => simp
  | @cons S S' w c ws cs h k ih =>
    rw [ih he, cnt_up h.free, List.countP_cons]
    have h1 := k.keep e he
    have hne : e ≠ c := fun g => by rw [g, up_eq] at h1; cases h1
    rw [up_ne hne] at h1
    have h2 := h.le
    by_cases a : w < e + 1
    · have : c < e := by
        rcases Nat.lt_or_ge e c with g | g
        · have := h.full e (by omega) g; rw [h1] at this; cases this
        · omega
      simp [a, this]; omega
    · simp [a, show ¬ c < e by omega]
theorem countP_all {l : List Nat} {p : Nat → Bool} : l.countP p = l.length ↔ ∀ c ∈ l, p c = true := List.countP_eq_length
/-- no chair is taken -/
def no : Nat → Bool := fun _ => false
theorem cnt_no (k : Nat) : cnt no k = 0 := by
  induction k with
  | zero => rfl
  | succ k ih => simp [cnt, ih, no]
/-- n customers for n chairs: everybody sits below n exactly if for each k at least k wish a chair below k -/
theorem good_iff {ws : List Nat} {S1 : Nat → Bool} {cs : List Nat} (h : Park ws no S1 cs) : (∀ c ∈ cs, c < ws.length) ↔ ∀ k, 1 ≤ k → k ≤ ws.length → k ≤ ws.countP (fun c => decide (c < k)) := by
  constructor
  · intro hc k h1 h2
    have e1 := h.cnt ws.length
    rw [cnt_no, countP_all.2 (fun c hm => by simpa using hc c hm), h.length, Nat.zero_add] at e1
    have e2 := cnt_of_full k (fun j hj => cnt_full _ e1 j (by omega))
    have e3 := h.cnt_le k
    rw [cnt_no] at e3
    omega
  · intro hk
    refine Classical.byContradiction fun hn => ?_
    have e1 := h.cnt ws.length
    rw [cnt_no, Nat.zero_add] at e1
    have e2 : cs.countP (fun c => decide (c < ws.length)) ≤ cs.length := List.countP_le_length
    rw [h.length] at e2
    have e3 : cs.countP (fun c => decide (c < ws.length)) ≠ ws.length := fun e => hn fun c hm => by
      have := countP_all.1 (e.trans h.length.symm) c hm
      simpa using this
    obtain ⟨c, h1, h2⟩ := cnt_gap (S := S1) ws.length (by omega)
    have e4 := h.free c h2
    have e5 := cnt_le S1 c
    have e6 := hk (c + 1) (by omega) (by omega)
    rw [cnt_no] at e4
    omega
/-- the sum of what is taken -/
def tot (S : Nat → Bool) : Nat → Nat
  | 0 => 0
  | k + 1 => tot S k + if S k = true then k else 0
theorem tot_up {S : Nat → Bool} {c : Nat} (h : S c = false) (k : Nat) : tot (up S c) k = tot S k + if c < k then c else 0 := by
  induction k with
  | zero => simp [tot]
  | succ k ih =>
    simp only [tot, ih]
    by_cases e : k = c
    · subst e; rw [up_eq, h]; simp
    · rw [up_ne e]
      split <;> split <;> split <;> omega
theorem Park.tot {ws : List Nat} {S S1 : Nat → Bool} {cs : List Nat} (h : Park ws S S1 cs) (m : Nat) (hm : ∀ c ∈ cs, c < m) : MPark.tot S1 m = MPark.tot S m + cs.sum := by
  induction h with
  | nil => simp
  | @cons S S' w c ws cs h _ ih =>
    rw [ih (fun x hx => hm x (List.mem_cons_of_mem _ hx)), tot_up h.free, if_pos (hm c List.mem_cons_self), List.sum_cons]
    omega
/-- everybody who wishes a free chair of his own stays there -/
theorem Park.same {cs : List Nat} : ∀ {S : Nat → Bool}, (∀ c ∈ cs, S c = false) → cs.Nodup → ∃ S1, Park cs S S1 cs := by
  induction cs with
  | nil => exact fun _ _ => ⟨_, .nil _⟩
  | cons c cs ih =>
    intro S h1 h2
    rw [List.nodup_cons] at h2
    obtain ⟨S1, h3⟩ := ih (S := up S c) (fun x hx => by rw [up_ne (fun e => h2.1 (by rw [← e]; exact hx))]; exact h1 x (List.mem_cons_of_mem _ hx)) h2.2
    exact ⟨S1, .cons ⟨Nat.le_refl _, h1 c List.mem_cons_self, fun j a b => by omega⟩ h3⟩
theorem Park.nodup {ws : List Nat} {S S1 : Nat → Bool} {cs : List Nat} (h : Park ws S S1 cs) : cs.Nodup := by
  rw [List.nodup_iff_count]
  intro j
  have := h.count j
  split at this <;> split at this <;> omega
theorem Park.ge {ws : List Nat} {S S1 : Nat → Bool} {cs : List Nat} (h : Park ws S S1 cs) (i : Nat) : i < ws.length → ws.getD i 0 ≤ cs.getD i 0 := by
  induction h generalizing i with
  | nil => simp
  | cons h _ ih =>
    intro hi
    cases i with
    | zero => simpa using h.le
    | succ i => simpa using ih i (by simpa using hi)
end Go.Proofs.Ytfopeenjpdaacaa.MPark
