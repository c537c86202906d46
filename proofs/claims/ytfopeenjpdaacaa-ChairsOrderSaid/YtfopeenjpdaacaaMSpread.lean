/- The rows of numbers that the iterator makes: how many good lists there are for each distance; plain. -/
namespace Go.Proofs.Ytfopeenjpdaacaa.PC
/-- the number of ways to choose i of n -/
def chairs_Spread.ch (n : Nat) : Nat → Nat
  | 0 => 1
  | i + 1 => chairs_Spread.ch n i * (n - i) / (i + 1)
/-- v is added to `many` places from i on -/
def chairs_Spread.adds (v : Nat) : Nat → Nat → List Nat → List Nat
  | 0, _, out => out
  | m + 1, i, out => chairs_Spread.adds v m (i + 1) (out.set i (out.getD i 0 + v))
/-- all pairs of distances of those before a chair and those after it -/
def chairs_Spread.ys (v m a : Nat) : List Nat → Nat → List Nat → List Nat
  | [], _, out => out
  | y :: r, b, out => chairs_Spread.ys v m a r (b + 1) (chairs_Spread.adds (v * y) m (a + b) out)
def chairs_Spread.xs (v m : Nat) (after : List Nat) : List Nat → Nat → List Nat → List Nat
  | [], _, out => out
  | x :: r, a, out => chairs_Spread.xs v m after r (a + 1) (chairs_Spread.ys (v * x) m a after 0 out)
def chairs_Spread.befs (known : List (List Nat)) (size : Nat) : Nat → Nat → List Nat → List Nat
  | 0, _, out => out
  | d + 1, before, out => chairs_Spread.befs known size d (before + 1) (chairs_Spread.xs (chairs_Spread.ch (size - 1) before) (before + 1) (known.getD (size - 1 - before) []) (known.getD before []) 0 out)
def chairs_Spread.row (known : List (List Nat)) (size : Nat) : List Nat :=
  chairs_Spread.befs known size size 0 (List.replicate (size * (size - 1) / 2 + 1) 0)
def chairs_Spread.known : Nat → List (List Nat)
  | 0 => [[1]]
  | n + 1 => chairs_Spread.known n ++ [chairs_Spread.row (chairs_Spread.known n) (n + 1)]
namespace MSpread
open chairs_Spread
/-- the one row is at most the other one, place by place -/
def Le2 (a b : List Nat) : Prop := a.length = b.length ∧ ∀ i, a.getD i 0 ≤ b.getD i 0
theorem Le2.refl (a : List Nat) : Le2 a a := ⟨rfl, fun _ => Nat.le_refl _⟩
theorem Le2.trans {a b c : List Nat} (h : Le2 a b) (k : Le2 b c) : Le2 a c := ⟨h.1.trans k.1, fun i => Nat.le_trans (h.2 i) (k.2 i)⟩
theorem set_le (out : List Nat) (i v : Nat) : Le2 out (out.set i (out.getD i 0 + v)) := by
  refine ⟨by simp, fun j => ?_⟩
  by_cases e : j = i
  · subst e
    by_cases hj : j < out.length
    · simp [List.getD_eq_getElem?_getD, hj]
    · simp [List.getD_eq_getElem?_getD, hj]
  · simp [List.getD_eq_getElem?_getD, List.getElem?_set_ne (Ne.symm e)]
theorem adds_le (v m : Nat) : ∀ (i : Nat) (out : List Nat), Le2 out (adds v m i out) := by
  induction m with
  | zero => exact fun _ out => Le2.refl out
  | succ m ih => exact fun i out => (set_le out i v).trans (ih _ _)
theorem adds_ge (v m i : Nat) (out : List Nat) (hi : i < out.length) : v ≤ (adds v (m + 1) i out).getD i 0 := by
  have h := (adds_le v m (i + 1) (out.set i (out.getD i 0 + v))).2 i
  rw [show (out.set i (out.getD i 0 + v)).getD i 0 = out.getD i 0 + v by simp [List.getD_eq_getElem?_getD, hi]] at h
  exact Nat.le_trans (Nat.le_add_left _ _) h
theorem ys_le (v m a : Nat) (l : List Nat) : ∀ (b : Nat) (out : List Nat), Le2 out (ys v m a l b out) := by
  induction l with
  | nil => exact fun _ out => Le2.refl out
  | cons y l ih => exact fun b out => (adds_le _ _ _ _).trans (ih _ _)
theorem xs_le (v m : Nat) (after l : List Nat) : ∀ (a : Nat) (out : List Nat), Le2 out (xs v m after l a out) := by
  induction l with
  | nil => exact fun _ out => Le2.refl out
  | cons y l ih => exact fun b out => (ys_le _ _ _ _ _ _).trans (ih _ _)
theorem befs_le (known : List (List Nat)) (size d : Nat) : ∀ (before : Nat) (out : List Nat), Le2 out (befs known size d before out) := by
  induction d with
  | zero => exact fun _ out => Le2.refl out
  | succ d ih => exact fun b out => (xs_le _ _ _ _ _ _).trans (ih _ _)
theorem known_length (n : Nat) : (known n).length = n + 1 := by
  induction n with
  | zero => rfl
  | succ n ih => simp [known, ih]
/-- the rows that the program makes, all of them -/
def lit : List (List Nat) := [[1], [1], [2, 1], [6, 6, 3, 1], [24, 36, 30, 20, 10, 4, 1], [120, 240, 270, 240, 180, 120, 70, 35, 15, 5, 1], [720, 1800, 2520, 2730, 2520, 2100, 1610, 1140, 750, 455, 252, 126, 56, 21, 6, 1], [5040, 15120, 25200, 31920, 34230, 32970, 29400, 24640, 19600, 14840, 10696, 7336, 4781, 2947, 1708, 924, 462, 210, 84, 28, 7, 1], [40320, 141120, 272160, 393120, 476280, 514080, 511560, 478800, 427140, 365960, 302344, 241416, 186522, 139440, 100800, 70392, 47418, 30744, 19124, 11368, 6426, 3432, 1716, 792, 330, 120, 36, 8, 1], [362880, 1451520, 3175200, 5140800, 6917400, 8225280, 8961120, 9147600, 8883000, 8288700, 7480620, 6558300, 5600910, 4667040, 3797640, 3018960, 2344860, 1779120, 1317960, 952560, 671076, 460284, 306900, 198540, 124320, 75132, 43668, 24300, 12870, 6435, 3003, 1287, 495, 165, 45, 9, 1], [3628800, 16329600, 39916800, 71517600, 105613200, 136798200, 161330400, 177408000, 184892400, 184707600, 178295040, 167246100, 153072360, 137082330, 120346380, 103705140, 87789240, 73042200, 59745840, 48048000, 37988412, 29522790, 22545720, 16911720, 12453540, 8996922, 6371640, 4419360, 2998710, 1987920, 1285482, 809325, 495000, 293325, 167850, 92367, 48620, 24310, 11440, 5005, 2002, 715, 220, 55, 10, 1]]
set_option maxRecDepth 1000000 in
theorem known_lit : known 10 = lit := by decide +kernel
theorem known_take (n k : Nat) : (known (n + k)).take (n + 1) = known n := by
  induction k with
  | zero => exact List.take_of_length_le (by rw [known_length]; exact Nat.le_refl _)
  | succ k ih =>
    show (known (n + k) ++ _).take (n + 1) = _
    rw [List.take_append_of_le_length (by rw [known_length]; omega)]
    exact ih
theorem known_of {n : Nat} (h : n ≤ 10) : known n = lit.take (n + 1) := by
  rw [← known_lit, ← known_take n (10 - n), show n + (10 - n) = 10 by omega]
theorem row_of {n : Nat} (h : n < 10) : row (known n) (n + 1) = lit.getD (n + 1) [] := by
  have h1 : known (n + 1) = lit.take (n + 2) := known_of (by omega)
  have h2 : (known (n + 1)).getD (n + 1) [] = row (known n) (n + 1) := by
    have := known_length n
    simp [known, List.getD_eq_getElem?_getD, ← this]
  rw [← h2, h1]
  simp [List.getD_eq_getElem?_getD]
theorem all_small {n : Nat} (h : n < 10) : ∀ x ∈ row (known n) (n + 1), x < 4294967296 := by
  rw [row_of h]
  exact (by decide +kernel : ∀ n, n < 10 → ∀ x ∈ lit.getD (n + 1) [], x < 4294967296) n h
theorem all_len {n : Nat} (h : n < 11) : ∀ i, i < n + 1 → ((known n).getD i []).length = i * (i - 1) / 2 + 1 := by
  rw [known_of (by omega)]
  exact (by decide +kernel : ∀ n, n < 11 → ∀ i, i < n + 1 → ((lit.take (n + 1)).getD i []).length = i * (i - 1) / 2 + 1) n h
theorem row_len {n : Nat} (h : n < 10) : (row (known n) (n + 1)).length ≤ 46 := by
  rw [row_of h]
  exact (by decide +kernel : ∀ n, n < 10 → (lit.getD (n + 1) []).length ≤ 46) n h
theorem fit : ∀ n, n < 11 → ∀ before, before < n → before * (before - 1) / 2 + (n - 1 - before) * (n - 1 - before - 1) / 2 + before ≤ n * (n - 1) / 2 := by decide +kernel
theorem ch_small : ∀ n, n < 10 → ∀ k, k < n + 1 → 1 ≤ ch n k ∧ ch n k ≤ 126 := by decide +kernel
theorem all_pos {n : Nat} (h : n < 11) : ∀ r ∈ known n, ∀ x ∈ r, 1 ≤ x ∧ x < 4294967296 := by
  rw [known_of (by omega)]
  exact (by decide +kernel : ∀ n, n < 11 → ∀ r ∈ lit.take (n + 1), ∀ x ∈ r, 1 ≤ x ∧ x < 4294967296) n h
theorem Le2.lt {a b : List Nat} (h : Le2 a b) {N : Nat} (hN : 0 < N) (hb : ∀ x ∈ b, x < N) (i : Nat) : a.getD i 0 < N := by
  refine Nat.lt_of_le_of_lt (h.2 i) ?_
  rw [List.getD_eq_getElem?_getD]
  by_cases hi : i < b.length
  · rw [List.getElem?_eq_getElem hi]; exact hb _ (List.getElem_mem hi)
  · rw [List.getElem?_eq_none (by omega)]; exact hN
/-- what the walk wants of a round's numbers: they are small, and the places lie in the row -/
theorem sizes {s b af : Nat} (hs : s < 11) (h : af + b + 1 = s) : ((known (s - 1)).getD b []).length + ((known (s - 1)).getD af []).length + b ≤ s * (s - 1) / 2 + 2 ∧ ((known (s - 1)).getD b []).length ≤ 46 ∧ ((known (s - 1)).getD af []).length ≤ 46 := by
  have h1 := all_len (n := s - 1) (by omega) b (by omega)
  have h2 := all_len (n := s - 1) (by omega) af (by omega)
  have h3 := fit s hs b (by omega)
  have h4 : b * (b - 1) ≤ 90 := Nat.mul_le_mul (show b ≤ 10 by omega) (show b - 1 ≤ 9 by omega)
  have h5 : af * (af - 1) ≤ 90 := Nat.mul_le_mul (show af ≤ 10 by omega) (show af - 1 ≤ 9 by omega)
  rw [show s - 1 - b = af by omega] at h3
  omega
end MSpread
end Go.Proofs.Ytfopeenjpdaacaa.PC
