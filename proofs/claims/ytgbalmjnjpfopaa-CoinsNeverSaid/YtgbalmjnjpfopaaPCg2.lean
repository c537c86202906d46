-- Printed by a program of this session (mkprint.sh, over the kit's print.py), with own proofs for the functions that the print does not take.
import Derived.Test.YtgbalmjnjpfopaaPCg1
import Derived.Test.YtgbalmjnjpfopaaPCx0
import Derived.Sort.LoopGhostIn
import Derived.Sort.QuietIn
import Derived.IntWalk
import Derived.Test.YtgbalmjnjpfopaaHBack
import Derived.Test.YtgbalmjnjpfopaaHQuiet
import Derived.Laws.CopyOwn
import Derived.Deep.RegionLaw
namespace Go.Proofs.Ytgbalmjnjpfopaa.PC
open Go.RowKit Go.Proofs.YtgbalmjnjpfopaaW.PrintWords Go.Proofs.YtgbalmjnjpfopaaW.PrintLast Go.Proofs.YtgbalmjnjpfopaaW.PrintMore
attribute [local go_sem] max2_int min2_int max_two min_two max_three min_three max_four min_four   -- for this text's walks alone
set_option linter.unusedVariables false
set_option linter.unusedSimpArgs false

/-! ### coins_best: function 36 -/
/-- how many coins v the best change takes of what is left: d bounds the rounds -/
def coins_best.cnt (few : List Int) (v : Int) : Nat → Int → Nat
  | 0, _ => 0
  | d + 1, a => if v ≤ a ∧ rd few (a - v) + 1 = rd few a then coins_best.cnt few v d (a - v) + 1 else 0
def coins_best.bl (few : List Int) : List Int → Int → List Int × Int
  | [], a => ([], a)
  | v :: l, a => ((coins_best.cnt few v (coins_best.bl few l a).2.toNat (coins_best.bl few l a).2 : Int) :: (coins_best.bl few l a).1,
      (coins_best.bl few l a).2 - (coins_best.cnt few v (coins_best.bl few l a).2.toNat (coins_best.bl few l a).2 : Int) * v)
def coins_best.f (k : Nat) (l0 : List Int) (a1 : Int) : Option (List Int) :=
  (coins_fewest.f k l0 a1).bind fun few =>
  if l0.length ≤ 40 ∧ (∀ v ∈ l0, 1 ≤ v ∧ v ≤ 1000000) ∧ 0 ≤ a1 ∧ a1 ≤ 1000000 ∧ (few.length : Int) = a1 + 1 ∧ (∀ x ∈ few, 0 ≤ x ∧ x ≤ 1000000) then some (coins_best.bl few l0 a1).1 else none
theorem coins_best.mono : ∀ a0 a1 k, LeO (coins_best.f k a0 a1) (coins_best.f (k + 1) a0 a1) := fun _ _ k => LeO.bind (coins_fewest.mono _ _ k) (fun _ => LeO.refl _)

section
open Go.Shelf Go.Proofs.Ytgbalmjnjpfopaa.HBack
attribute [local go_sem] Oper.semAt_some
theorem coins_best.cnt_le (few : List Int) (v : Int) (hv : 1 ≤ v) : ∀ (d : Nat) (a : Int), 0 ≤ a → (coins_best.cnt few v d a : Int) * v ≤ a := by
  intro d
  induction d with
  | zero => intro a h; simp [coins_best.cnt]; exact h
  | succ d ih =>
    intro a h
    unfold coins_best.cnt
    split
    · rename_i hc
      have := ih (a - v) (by omega)
      rw [show ((coins_best.cnt few v d (a - v) + 1 : Nat) : Int) * v = (coins_best.cnt few v d (a - v) : Int) * v + v from by rw [Int.natCast_add, Int.add_mul]; simp]
      omega
    · simp; exact h
/-- more fuel than the amount tells the same -/
theorem coins_best.cnt_fuel (few : List Int) (v : Int) (hv : 1 ≤ v) : ∀ (d d' : Nat) (a : Int), a.toNat ≤ d → a.toNat ≤ d' → coins_best.cnt few v d a = coins_best.cnt few v d' a := by
  intro d
  induction d with
  | zero =>
    intro d' a h h'
    cases d' with
    | zero => rfl
    | succ d' => unfold coins_best.cnt; rw [if_neg (by omega)]
  | succ d ih =>
    intro d' a h h'
    cases d' with
    | zero => unfold coins_best.cnt; rw [if_neg (by omega)]
    | succ d' =>
      unfold coins_best.cnt
      by_cases hc : v ≤ a ∧ rd few (a - v) + 1 = rd few a
      · rw [if_pos hc, if_pos hc, ih d' (a - v) (by omega) (by omega)]
      · rw [if_neg hc, if_neg hc]
/-- how many are taken at the amount a -/
def coins_best.tk (few : List Int) (v a : Int) : Nat := coins_best.cnt few v a.toNat a
theorem coins_best.tk_le (few : List Int) (v a : Int) (hv : 1 ≤ v) (h : 0 ≤ a) : (coins_best.tk few v a : Int) * v ≤ a := coins_best.cnt_le few v hv _ a h
theorem coins_best.tk_yes (few : List Int) (v a : Int) (hv : 1 ≤ v) (h1 : v ≤ a) (h2 : rd few (a - v) + 1 = rd few a) : coins_best.tk few v a = coins_best.tk few v (a - v) + 1 := by
  unfold coins_best.tk
  obtain ⟨d, hd⟩ : ∃ d, a.toNat = d + 1 := ⟨a.toNat - 1, by omega⟩
  rw [hd]
  conv => lhs; unfold coins_best.cnt
  rw [if_pos ⟨h1, h2⟩, coins_best.cnt_fuel few v hv d (a - v).toNat (a - v) (by omega) (Nat.le_refl _)]
theorem coins_best.tk_no (few : List Int) (v a : Int) (h : ¬ (v ≤ a ∧ rd few (a - v) + 1 = rd few a)) : coins_best.tk few v a = 0 := by
  unfold coins_best.tk
  cases a.toNat with
  | zero => rfl
  | succ d => unfold coins_best.cnt; rw [if_neg h]
/-- a round of the outer loop -/
def coins_best.step {n : Nat} (few : List Int) (s : List Int × Int) (x : coins_greedy.GX n) : List Int × Int :=
  (s.1.set x.1.1.toNat (rd s.1 x.1.1 + coins_best.tk few x.1.2 s.2), s.2 - coins_best.tk few x.1.2 s.2 * x.1.2)
def coins_best.bf {n : Nat} (few : List Int) (a : Int) (pre : List (coins_greedy.GX n)) : List Int × Int := pre.foldl (coins_best.step few) (List.replicate n 0, a)
theorem coins_best.bf_snoc {n : Nat} (few : List Int) (a : Int) (pre : List (coins_greedy.GX n)) (x : coins_greedy.GX n) : coins_best.bf few a (pre ++ [x]) = coins_best.step few (coins_best.bf few a pre) x := by simp [coins_best.bf]
def coins_best.Ok (n : Nat) (a : Int) (s : List Int × Int) : Prop := s.1.length = n ∧ 0 ≤ s.2 ∧ s.2 ≤ a ∧ ∀ i, 0 ≤ rd s.1 i ∧ rd s.1 i ≤ a - s.2
theorem coins_best.rd_set (l : List Int) (i j : Int) (v : Int) (h0 : 0 ≤ i) (h1 : 0 ≤ j) (h : i < l.length) : rd (l.set i.toNat v) j = if i = j then v else rd l j := by
  unfold rd
  rw [List.getD_eq_getElem?_getD, List.getElem?_set, List.getD_eq_getElem?_getD]
  by_cases e : i = j
  · subst e
    rw [if_pos rfl, if_pos rfl, if_pos (by omega)]
    rfl
  · rw [if_neg (by omega), if_neg e]
theorem coins_best.step_ok {n : Nat} (few : List Int) (a : Int) (s : List Int × Int) (x : coins_greedy.GX n) (hn : 0 < n) (h : coins_best.Ok n a s) : coins_best.Ok n a (coins_best.step few s x) := by
  obtain ⟨h1, h2, h3, h4⟩ := h
  obtain ⟨x0, x1, x2, x3⟩ := x.2
  have x1' := x1 hn
  have t1 := coins_best.tk_le few x.1.2 s.2 x2 h2
  have t2 : (coins_best.tk few x.1.2 s.2 : Int) * 1 ≤ (coins_best.tk few x.1.2 s.2 : Int) * x.1.2 := Int.mul_le_mul_of_nonneg_left x2 (Int.natCast_nonneg _)
  have t3 := h4 x.1.1
  refine ⟨by simp only [coins_best.step, List.length_set]; exact h1, by simp only [coins_best.step]; omega, by simp only [coins_best.step]; omega, ?_⟩
  intro i
  have h5 := h4 i
  simp only [coins_best.step]
  have h6 : rd (s.1.set x.1.1.toNat (rd s.1 x.1.1 + coins_best.tk few x.1.2 s.2)) i = if x.1.1.toNat = i.toNat then rd s.1 x.1.1 + coins_best.tk few x.1.2 s.2 else rd s.1 i := by
    have := coins_best.rd_set s.1 x.1.1 (i.toNat : Int) (rd s.1 x.1.1 + coins_best.tk few x.1.2 s.2) x0 (by omega) (by omega)
    rw [show rd (s.1.set x.1.1.toNat (rd s.1 x.1.1 + coins_best.tk few x.1.2 s.2)) i = rd (s.1.set x.1.1.toNat (rd s.1 x.1.1 + coins_best.tk few x.1.2 s.2)) (i.toNat : Int) from by unfold rd; rw [Int.toNat_natCast], this]
    by_cases e : x.1.1 = (i.toNat : Int)
    · rw [if_pos e, if_pos (by omega)]
    · rw [if_neg e, if_neg (by omega)]
      unfold rd; rw [Int.toNat_natCast]
  rw [h6]
  split <;> omega
theorem coins_best.bf_ok {n : Nat} (few : List Int) (a : Int) (h0 : 0 ≤ a) (hn : 0 < n) (pre : List (coins_greedy.GX n)) : coins_best.Ok n a (coins_best.bf few a pre) := by
  have key : ∀ (pre : List (coins_greedy.GX n)) (s : List Int × Int), coins_best.Ok n a s → coins_best.Ok n a (pre.foldl (coins_best.step few) s) := by
    intro pre
    induction pre with
    | nil => exact fun s h => h
    | cons x pre ih => exact fun s h => ih _ (coins_best.step_ok few a s x hn h)
  refine key pre _ ⟨by simp, h0, Int.le_refl _, fun i => ?_⟩
  have : rd (List.replicate n (0 : Int)) i = 0 := by
    unfold rd
    rw [List.getD_eq_getElem?_getD, List.getElem?_replicate]
    split <;> rfl
  simp only [this]
  omega
/-- what the two variables hold when k rounds are over -/
def coins_best.bst (few : List Int) (l : List Int) (a : Int) (k : Nat) : List Int × Int := (List.replicate (l.length - k) 0 ++ (coins_best.bl few (l.drop (l.length - k)) a).1, (coins_best.bl few (l.drop (l.length - k)) a).2)
theorem coins_best.bl_len (few : List Int) (l : List Int) (a : Int) : (coins_best.bl few l a).1.length = l.length := by
  induction l with
  | nil => rfl
  | cons v l ih => simp [coins_best.bl, ih]
theorem coins_best.bst_zero (few : List Int) (l : List Int) (a : Int) : coins_best.bst few l a 0 = (List.replicate l.length 0, a) := by simp [coins_best.bst, coins_best.bl]
theorem coins_best.bst_all (few : List Int) (l : List Int) (a : Int) : coins_best.bst few l a l.length = coins_best.bl few l a := by simp [coins_best.bst]
theorem coins_best.bst_succ (few : List Int) (l : List Int) (a : Int) (k q : Nat) (hq : l.length - 1 - k = q) (hk : k < l.length) :
    coins_best.bst few l a (k + 1) = ((coins_best.bst few l a k).1.set q (rd (coins_best.bst few l a k).1 (q : Int) + coins_best.tk few (l[q]?.getD 0) (coins_best.bst few l a k).2), (coins_best.bst few l a k).2 - coins_best.tk few (l[q]?.getD 0) (coins_best.bst few l a k).2 * l[q]?.getD 0) := by
  subst hq
  have hd : l.drop (l.length - (k + 1)) = l[l.length - 1 - k]?.getD 0 :: l.drop (l.length - k) := by
    rw [List.drop_eq_getElem_cons (by omega), List.getElem?_eq_getElem (by omega)]
    have : l.length - (k + 1) = l.length - 1 - k := by omega
    simp only [this, Option.getD_some]
    rw [show l.length - 1 - k + 1 = l.length - k by omega]
  have hr : List.replicate (l.length - k) (0 : Int) = List.replicate (l.length - (k + 1)) 0 ++ [0] := by
    rw [show l.length - k = (l.length - (k + 1)) + 1 by omega, List.replicate_succ']
  have h0 : rd (coins_best.bst few l a k).1 ((l.length - 1 - k : Nat) : Int) = 0 := by
    unfold rd coins_best.bst
    rw [Int.toNat_natCast, List.getD_eq_getElem?_getD, List.getElem?_append_left (by simp; omega), List.getElem?_replicate, if_pos (by omega)]
    rfl
  rw [h0]
  simp only [coins_best.bst, hd, coins_best.bl]
  refine Prod.ext ?_ rfl
  simp only
  rw [hr, List.append_assoc, List.set_append_right _ _ (by simp; omega)]
  simp
  rw [show l.length - 1 - k - (l.length - (k + 1)) = 0 by omega]
  rfl
theorem coins_best.bf_upto (few : List Int) (l : List Int) (hv : ∀ v ∈ l, 1 ≤ v ∧ v ≤ 1000000) (a : Int) (k : Nat) (hk : k ≤ l.length) : coins_best.bf few a (upto (coins_greedy.gx l hv) k) = coins_best.bst few l a k := by
  induction k with
  | zero => rw [coins_best.bst_zero]; rfl
  | succ k ih =>
    rw [upto_succ, coins_best.bf_snoc, ih (by omega), coins_best.bst_succ few l a k _ rfl (by omega)]
    have h : coins_greedy.gx l hv k = ⟨(((l.length - 1 - k : Nat) : Int), l[l.length - 1 - k]), _⟩ := dif_pos (by omega)
    rw [h, List.getElem?_eq_getElem (by omega)]
    rfl

/-- what holds at the head of the inner loop: j coins have been taken, p is left -/
def coins_best.Inner (W0 : World) (n₀ m₀ fg fc len : Nat) (fcs : Array Value) (few ol : List Int) (am v : Int) (i : Nat) (kq : Nat) (wr : World) : Prop :=
  ∃ (j p : Nat), am - (j : Int) * v = (p : Int) ∧ coins_best.tk few v (p : Int) + j = coins_best.tk few v am ∧ p < kq ∧
    Boxed wr n₀ 3 (.int .i64 (p : Int)) ∧ Blk wr (m₀ + 1) 3 ((ol.set i (rd ol (i : Int) + (j : Int))).map (.int .i64)) ∧
    Boxed wr (m₀ + 2) 22 (.slice (some ⟨m₀ + 1, 0, none⟩) len len) ∧ Boxed wr m₀ 22 (.slice (some ⟨fg, 0, none⟩) few.length fc) ∧ Blk wr fg 3 fcs.toList ∧
    Below n₀ W0 wr ∧ KeepsOthers W0 wr ∧ wr.heap[m₀ + 3]? = W0.heap[m₀ + 3]?

set_option maxRecDepth 100000 in
set_option maxHeartbeats 4000000 in
theorem coins_best.walk (k : Nat) (A0 : Option Addr) (c0 : Nat) (l0 : List Int) (a1 : Int) (few : List Int) (w : World) (hr0 : Kd.C (Kd.int .i64) w A0 l0.length l0) (hc0 : l0.length ≤ c0) (hfew : coins_fewest.f k l0 a1 = some few) (hlen : l0.length ≤ 40) (hv : ∀ v ∈ l0, 1 ≤ v ∧ v ≤ 1000000) (ha : 0 ≤ a1) (ha1 : a1 ≤ 1000000) (hfl : (few.length : Int) = a1 + 1) (hfb : ∀ x ∈ few, 0 ≤ x ∧ x ≤ 1000000) :
    Calls Try.prog 36 #[.slice A0 l0.length c0, .int .i64 a1] w fun e w' => ∃ v0_ : Value, e = .returned (v0_) ∧ Kd.R (Kd.int .i64) 3 w' w.heap.size (fun _ => True) v0_ (coins_best.bl few l0 a1).1 ∧ Below w.heap.size w w' := by
  have hmk := @print_make Try.prog 22 3 .i64 8 Try.underlying22 info3 (by decide) l0.length (by omega)
  have HI := ints_of_C hr0
  have hr1 : Kd.C (Kd.int .i64) (w.alloc (.cells #[.int .i64 a1] 3)) A0 l0.length l0 := Kd.C_alloc hr0 _
  clear hr0
  refine (callsIn_wide (n := 5)).1 ?_
  refine callsIn_of_wp_marks Try.func36 rfl trivial ?_ rfl
  simp only [Try.ntmps36, List.size_toArray, List.length_cons, List.length_nil, Nat.reduceAdd, Nat.reduceSub, Array.replicate_succ, Array.replicate_zero, List.push_toArray, List.append_toArray, List.nil_append, List.cons_append]
  have HHI := Lib.hid HI
  have HV := Lib.hid hv
  have HFL := Lib.hid hfl
  have HFB := Lib.hid hfb
  have HFEW := Lib.hid hfew
  have HR1 := Lib.hid hr1
  clear HI hv hfl hfb hfew hr1
  gi_wp2_with (first | (refine ⟨trivial, ?_⟩; gi_at_call 38; refine (callsIn_wide.2 (coins_fewest.calls k A0 c0 l0 a1 few _ HR1.out hc0 HFEW.out)).mono ?_; rintro e w5 ⟨v5, rfl, hR5, hB5⟩; obtain ⟨fg, fc, rfl, fb, fl, fcs, fh⟩ := Kd.R_form hR5 (by have := HFL.out; omega); have HR5 := Lib.hid hR5; have HB5 := Lib.hid hB5; have FH := Lib.hid fh; clear hR5 hB5 fh) | (refine ⟨trivial, ?_⟩; gi_at_call 43; refine (back_in Fence.wide (5 - 1) trivial rfl _ _ _ _).mono ?_; rintro e w' ⟨rfl, rfl⟩))
  have hR5 := HR5.out
  have hB5 := HB5.out
  have fh := FH.out
  have FC : ∀ q : Nat, q < few.length → fcs.toList[q]? = some (.int .i64 (rd few (q : Int))) := by
    intro q hq
    have h1 := (Kd.R_cell (0 : Int) hR5 (q : Int) (by omega) (by omega)).1
    rw [Int.toNat_natCast] at h1
    simp only [World.cell?, fh] at h1
    rw [Array.getElem?_toList]
    simpa [rdOf, rd] using h1
  clear FH HR5 HB5 hR5
  obtain ⟨n₀, hn₀⟩ : ∃ n₀, w.heap.size = n₀ := ⟨_, rfl⟩
  obtain ⟨m₀, hm₀⟩ : ∃ m₀, w5.heap.size = m₀ := ⟨_, rfl⟩
  rw [World.size_alloc, hn₀] at fb
  rw [hm₀] at fl
  have hnm : n₀ + 1 ≤ m₀ := by have := hB5.size; rw [World.size_alloc, hn₀, hm₀] at this; exact this
  have bA5 : Boxed w5 n₀ 3 (.int .i64 a1) := by
    rw [← hn₀]
    exact (hB5.block _ (by simp)).trans (Boxed.new w 3 _)
  have bF5 : Blk w5 fg 3 fcs.toList := by unfold Blk; rw [Array.toArray_toList]; exact fh
  have hB5' : Below n₀ w w5 := by
    rw [← hn₀]
    exact ((Below.refl _ w).alloc (Nat.le_refl _) _).trans (hB5.mono (by simp))
  obtain ⟨W1, hW1⟩ : ∃ W1, (((w5.alloc (.cells #[.slice (some ⟨fg, 0, none⟩) few.length fc] 22)).alloc (.cells (madeCells #[.int .i64 0] l0.length) 3)).alloc (.cells #[.slice (some ⟨w5.heap.size + 1, 0, none⟩) l0.length l0.length] 22)).alloc (.cells #[.slice A0 l0.length c0] 22) = W1 := ⟨_, rfl⟩
  have bA : Boxed W1 n₀ 3 (.int .i64 a1) := by rw [← hW1]; exact (((bA5.alloc _).alloc _).alloc _).alloc _
  have bF : Blk W1 fg 3 fcs.toList := by rw [← hW1]; exact (((bF5.alloc _).alloc _).alloc _).alloc _
  have bV : Boxed W1 m₀ 22 (.slice (some ⟨fg, 0, none⟩) few.length fc) := by rw [← hW1, ← hm₀]; exact (((Boxed.new w5 22 _).alloc _).alloc _).alloc _
  have bC : Blk W1 (m₀ + 1) 3 ((List.replicate l0.length (0 : Int)).map (.int .i64)) := by
    rw [← hW1, ← hm₀]
    have h := blk_of_made (w5.alloc (.cells #[.slice (some ⟨fg, 0, none⟩) few.length fc] 22)) l0.length
    rw [World.size_alloc] at h
    exact (h.alloc _).alloc _
  have bO : Boxed W1 (m₀ + 2) 22 (.slice (some ⟨m₀ + 1, 0, none⟩) l0.length l0.length) := by
    rw [← hW1, ← hm₀]
    have h := Boxed.new ((w5.alloc (.cells #[.slice (some ⟨fg, 0, none⟩) few.length fc] 22)).alloc (.cells (madeCells #[.int .i64 0] l0.length) 3)) 22 (.slice (some ⟨w5.heap.size + 1, 0, none⟩) l0.length l0.length)
    rw [World.size_alloc, World.size_alloc] at h
    exact h.alloc _
  have bS : Boxed W1 (m₀ + 3) 22 (.slice A0 l0.length c0) := by
    rw [← hW1, ← hm₀]
    have h := Boxed.new (((w5.alloc (.cells #[.slice (some ⟨fg, 0, none⟩) few.length fc] 22)).alloc (.cells (madeCells #[.int .i64 0] l0.length) 3)).alloc (.cells #[.slice (some ⟨w5.heap.size + 1, 0, none⟩) l0.length l0.length] 22)) 22 (.slice A0 l0.length c0)
    rw [World.size_alloc, World.size_alloc, World.size_alloc] at h
    exact h
  have hB1 : Below n₀ w W1 := by
    rw [← hW1]
    exact (((hB5'.alloc (by omega) _).alloc (by simp; omega) _).alloc (by simp; omega) _).alloc (by simp; omega) _
  have hsz : W1.heap.size = m₀ + 4 := by rw [← hW1, ← hm₀]; simp
  have HI1 := HHI.out
  rw [hn₀] at HI1
  rw [hW1]
  simp only [hn₀, hm₀]
  refine wpIn_rangeFunc_ownG (α := coins_greedy.GX l0.length) (F := Fence.wide) (n := 5) rfl (by omega) (gf := 47) (lb := #[.pointer (some ⟨m₀ + 1 + 1 + 1, 0, none⟩)]) rfl trivial (enters_of Try.func47 (by kernel_rfl) rfl)
    (back_stops (fun x : coins_greedy.GX l0.length => #[Value.int .i64 x.1.1, Value.int .i64 x.1.2]) (coins_greedy.gx l0 HV.out) Fence.wide (5 - 1) trivial rfl (by omega) (m₀ + 3) n₀ A0 c0 l0 (by omega) W1 (by omega) (by omega) bS (HI1.below hB1) ?hg)
    (fun h k => h.trans k) (Kept.put (by omega) (by omega)) (Below.refl _ _) (fun _ => rfl)
    (fun pre W => (Boxed W n₀ 3 (.int .i64 (coins_best.bf few a1 pre).2) ∧ Blk W (m₀ + 1) 3 ((coins_best.bf few a1 pre).1.map (.int .i64)) ∧ Boxed W (m₀ + 2) 22 (.slice (some ⟨m₀ + 1, 0, none⟩) l0.length l0.length) ∧ Boxed W m₀ 22 (.slice (some ⟨fg, 0, none⟩) few.length fc) ∧ Blk W fg 3 fcs.toList) ∧ Below n₀ w W)
    (fun _ _ _ => False)
    (OwnFrom.and (OwnFrom.and (Own.from (boxed_own _ _ _) _) (OwnFrom.and (Own.from (blk_own _ _ _) _) (OwnFrom.and (Own.from (boxed_own (m₀ + 2) 22 (fun _ => .slice (some ⟨m₀ + 1, 0, none⟩) l0.length l0.length)) _) (OwnFrom.and (Own.from (boxed_own m₀ 22 (fun _ => .slice (some ⟨fg, 0, none⟩) few.length fc)) _) (Own.from (blk_own fg 3 (fun _ => fcs.toList)) _))))) (ownFrom_below (by omega) (by omega)))
    (fun _ _ _ _ _ hs _ _ => hs)
    ⟨⟨bA, bC, bO, bV, bF⟩, hB1⟩
    (fun x => { tmps := #[.slice A0 l0.length c0, .int .i64 a1, undef, .pointer (some ⟨n₀, 0, none⟩), .slice none 0 0, .pointer (some ⟨m₀, 0, none⟩), .pointer (some ⟨m₀ + 1 + 1, 0, none⟩), .int .i64 x.1.1, .int .i64 x.1.2, .slice A0 l0.length c0, .int .i64 a1, .slice (some ⟨fg, 0, none⟩) few.length fc, .slice A0 l0.length c0, .int .i64 (l0.length : Int), .slice (some ⟨m₀ + 1, 0, none⟩) l0.length l0.length, .slice A0 l0.length c0, .func (.func 47) #[] #[.pointer (some ⟨m₀ + 1 + 1 + 1, 0, none⟩)], .int .i64 x.1.1, .int .i64 x.1.2, undef, undef, undef, undef, undef, undef, undef, undef, undef, undef, undef, undef, undef, undef, undef, undef, undef, undef, undef, undef, undef, undef, undef, undef, undef, undef, undef], defers := [] }) ?assign ?body ?done ?stop
  case hg =>
    intro j hj
    have h : coins_greedy.gx l0 HV.out j = ⟨(((l0.length - 1 - j : Nat) : Int), l0[l0.length - 1 - j]), _⟩ := dif_pos hj
    rw [h, List.getElem?_eq_getElem (by omega)]
    rfl
  case assign =>
    intro l x W K hK
    gi_wp2
    exact hK
  case stop =>
    rintro D c pre W hD _ ⟨⟨⟩, _⟩
  case body =>
    rintro l pre x W ⟨⟨hA, hC, hO, hV, hF⟩, hB⟩ hpl
    obtain ⟨g1, g2, g3, g4⟩ := coins_best.bf_ok few a1 ha (by omega) pre
    obtain ⟨hx0, hx1, hx2, hx3⟩ := x.2
    have hx1' := hx1 (by omega)
    obtain ⟨i, hi⟩ : ∃ i : Nat, x.1.1 = i := ⟨x.1.1.toNat, by omega⟩
    have hil : i < l0.length := by omega
    have hil' : i < (coins_best.bf few a1 pre).1.length := by omega
    obtain ⟨ol, hol⟩ : ∃ ol, (coins_best.bf few a1 pre).1 = ol := ⟨_, rfl⟩
    obtain ⟨am, ham⟩ : ∃ am, (coins_best.bf few a1 pre).2 = am := ⟨_, rfl⟩
    obtain ⟨v, hv⟩ : ∃ v, x.1.2 = v := ⟨_, rfl⟩
    rw [hol] at g1 g4 hC hil'
    rw [ham] at g2 g3 g4 hA
    rw [hv] at hx2 hx3 ⊢
    rw [hi]
    have h40 := g4 (i : Int)
    have HXI := Lib.hid hi
    have HOL := Lib.hid hol
    have HAM := Lib.hid ham
    have HXV := Lib.hid hv
    have HG1 := Lib.hid g1
    have HFC := Lib.hid FC
    have HT := Lib.hid (coins_best.tk_le few v am hx2 g2)
    have hfl' := HFL.out
    clear hi hol ham hv g1 g4 hx0 hx1 hx1' FC bA bF bV bC bO bS hW1 hB1
    have hin : coins_best.Inner W n₀ m₀ fg fc l0.length fcs few ol am v i (am.toNat + 1) W := by
      refine ⟨0, am.toNat, by simp; omega, by simp [Int.toNat_of_nonneg g2], by omega, ?_, ?_, hO, hV, hF, Below.refl _ _, KeepsOthers.refl _, rfl⟩
      · rw [Int.toNat_of_nonneg g2]; exact hA
      · have : ol.set i (rd ol (i : Int) + ((0 : Nat) : Int)) = ol := by
          apply List.ext_getElem?
          intro y
          rw [List.getElem?_set]
          split
          · rename_i e
            subst e
            rw [List.getElem?_eq_getElem hil']
            simp [rd, List.getD_eq_getElem?_getD, hil']
          · rfl
        rw [this]; exact hC
    have HIN := Lib.hid hin
    clear hin hA hC hO hV hF
    gi_wp2
    gi_loopg [19] (am.toNat + 1) (fun kq _ wr => coins_best.Inner W n₀ m₀ fg fc l0.length fcs few ol am v i kq wr)
    case atStart => exact HIN.out
    case round =>
      clear HIN
      obtain ⟨j, p, hjp, htk, hpk, hA, hC, hO, hV, hF, hBW, hKW, hS⟩ := hrel
      have cA := hA.cell
      have fA := hA.frozen
      have cV := hV.cell
      have cO := hO.cell
      have hjn : (p : Int) ≤ am := by
        have := Int.mul_nonneg (Int.natCast_nonneg j) (show 0 ≤ v by omega)
        omega
      have HJP := Lib.hid hjp
      have HTK := Lib.hid htk
      clear hjp htk
      have hend : coins_best.tk few v (p : Int) = 0 → ∀ {m : Nat} {act : Act}, ownPostG W1.heap.size (Kept n₀ (m₀ + 3)) (fun pre W => (Boxed W n₀ 3 (.int .i64 (coins_best.bf few a1 pre).2) ∧ Blk W (m₀ + 1) 3 ((coins_best.bf few a1 pre).1.map (.int .i64)) ∧ Boxed W (m₀ + 2) 22 (.slice (some ⟨m₀ + 1, 0, none⟩) l0.length l0.length) ∧ Boxed W m₀ 22 (.slice (some ⟨fg, 0, none⟩) few.length fc) ∧ Blk W fg 3 fcs.toList) ∧ Below n₀ w W) (fun _ _ _ => False) (pre ++ [x]) W .normal act (wr.drewN m) := by
        intro h0 m act
        have hbf : coins_best.bf few a1 (pre ++ [x]) = (ol.set i (rd ol (i : Int) + (j : Int)), (p : Int)) := by
          rw [coins_best.bf_snoc]
          have h1 := HTK.out
          have h2 := HJP.out
          simp only [coins_best.step, HXI.out, HXV.out, HOL.out, HAM.out, Int.toNat_natCast]
          rw [show coins_best.tk few v am = j from by omega, h2]
        refine ⟨(hKW.trans (⟨Nat.le_refl _, fun _ _ h _ => h⟩ : KeepsOthers wr (wr.drewN m))).from _, ⟨pw_below_drewN hBW m, hS⟩, ?_, hB.trans (pw_below_drewN hBW m)⟩
        simp only [hbf]
        exact ⟨hA, hC, hO, hV, hF⟩
      have HEND := Lib.hid @hend
      clear hend
      by_cases h1 : v ≤ (p : Int)
      · obtain ⟨q, hq⟩ : ∃ q : Nat, (p : Int) - v = (q : Int) := ⟨((p : Int) - v).toNat, by omega⟩
        have hqp : q < p := by omega
        have hpf : p < few.length := by omega
        have hqf : q < few.length := by omega
        have c1 := Blk.cell_of hF (HFC.out q hqf)
        have c2 := Blk.cell_of hF (HFC.out p hpf)
        have b1 := HFB.out (rd few (q : Int)) (by unfold rd; rw [Int.toNat_natCast, List.getD_eq_getElem?_getD, List.getElem?_eq_getElem hqf]; exact List.getElem_mem hqf)
        have b2 := HFB.out (rd few (p : Int)) (by unfold rd; rw [Int.toNat_natCast, List.getD_eq_getElem?_getD, List.getElem?_eq_getElem hpf]; exact List.getElem_mem hpf)
        obtain ⟨fq, hfq⟩ : ∃ fq, rd few (q : Int) = fq := ⟨_, rfl⟩
        obtain ⟨fp, hfp⟩ : ∃ fp, rd few (p : Int) = fp := ⟨_, rfl⟩
        rw [hfq] at c1 b1
        rw [hfp] at c2 b2
        have HFQ := Lib.hid hfq
        have HFP := Lib.hid hfp
        have HQ := Lib.hid hq
        have hw1 : IntKind.i64.wrap ((p : Int) - v) = (q : Int) := by rw [IntWalk.i64_in _ (by omega)]; exact hq
        have hw2 : IntKind.i64.wrap (fq + 1) = fq + 1 := IntWalk.i64_in _ (by omega)
        have hd : decide (v ≤ (p : Int)) = true := decide_eq_true h1
        clear hfq hfp hq
        by_cases h2 : fq + 1 = fp
        · have hb2 : ((fq + 1) == fp) = true := beq_iff_eq.2 h2
          have hb3 : decide (fq + 1 = fp) = true := decide_eq_true h2
          have H2 := Lib.hid h2
          clear h2
          gi_wp2
          (refine Go.Proofs.Ytgbalmjnjpfopaa.HQuiet.region_quiet_lit (by kernel_rfl) (by kernel_rfl) (by kernel_rfl) ?_; (repeat (gi_big_quiet_step (fail))); refine wpQuietIn_nil ?_; intro _ hw'; obtain ⟨nq, hw''⟩ := hw'; subst hw'')
          obtain ⟨e, he⟩ : ∃ e, rd ol (i : Int) + (j : Int) = e := ⟨_, rfl⟩
          have hjv : (j : Int) * 1 ≤ (j : Int) * v := Int.mul_le_mul_of_nonneg_left hx2 (Int.natCast_nonneg _)
          have he1 : 0 ≤ e ∧ e ≤ 1000000 := by have := HJP.out; omega
          have cC : wr.cell? ⟨m₀ + 1, i, none⟩ = some (.int .i64 e) := by
            refine Blk.cell_of hC ?_
            rw [he, List.getElem?_map, List.getElem?_set, if_pos rfl, if_pos hil']
            rfl
          have fC := hC.frozen i
          have HE := Lib.hid he
          clear he hw1 hw2 hb2 hb3
          gi_wp2
          gi_roundg p
          case measure => exact hpk
          case rel =>
            have hh : ∀ k, k ≠ n₀ → k ≠ m₀ + 1 → (((wr.drewN nq).setCell ⟨m₀ + 1, i, none⟩ (.int .i64 (e + 1))).setCell ⟨n₀, 0, none⟩ (.int .i64 ((p : Int) - v))).heap[k]? = wr.heap[k]? := fun k h1 h2 => (Below.heap_setCell _ _ _ k h1).trans (Below.heap_setCell _ _ _ k h2)
            have hB3 : Below n₀ W (((wr.drewN nq).setCell ⟨m₀ + 1, i, none⟩ (.int .i64 (e + 1))).setCell ⟨n₀, 0, none⟩ (.int .i64 ((p : Int) - v))) := ((pw_below_drewN hBW nq).setCell (p := ⟨m₀ + 1, i, none⟩) (by simp; omega) _).setCell (p := ⟨n₀, 0, none⟩) (Nat.le_refl _) _
            have hK3 : KeepsOthers W (((wr.drewN nq).setCell ⟨m₀ + 1, i, none⟩ (.int .i64 (e + 1))).setCell ⟨n₀, 0, none⟩ (.int .i64 ((p : Int) - v))) := ((hKW.trans (⟨Nat.le_refl _, fun _ _ h _ => h⟩ : KeepsOthers wr (wr.drewN nq))).trans (KeepsOthers.setCell _ _ _)).trans (KeepsOthers.setCell _ _ _)
            have htk2 := coins_best.tk_yes few v (p : Int) hx2 h1 (by rw [HQ.out, HFQ.out, HFP.out]; exact H2.out)
            rw [HQ.out] at htk2
            refine ⟨j + 1, q, ?_, by have := HTK.out; omega, hqp, ?_, ?_, (hh _ (by omega) (by omega)).trans hO, (hh _ (by omega) (by omega)).trans hV, (hh _ (by omega) (by omega)).trans hF, hB3, hK3, (hh _ (by omega) (by omega)).trans hS⟩
            · have := HJP.out
              have := HQ.out
              rw [show ((j + 1 : Nat) : Int) * v = (j : Int) * v + v from by rw [Int.natCast_add, Int.add_mul]; simp]
              omega
            · rw [← HQ.out]
              have h1 : Boxed ((wr.drewN nq).setCell ⟨m₀ + 1, i, none⟩ (.int .i64 (e + 1))) n₀ 3 (.int .i64 (p : Int)) := (Below.heap_setCell _ _ _ n₀ (by simp; omega)).trans hA
              exact h1.set _
            · have h1 : Blk ((wr.drewN nq).setCell ⟨m₀ + 1, i, none⟩ (.int .i64 (e + 1))) (m₀ + 1) 3 (((ol.set i (rd ol (i : Int) + (j : Int))).map (.int .i64)).set i (.int .i64 (e + 1))) := Blk.set (W := wr.drewN nq) hC i _
              have h2 : ((ol.set i (rd ol (i : Int) + (j : Int))).map (Value.int .i64)).set i (.int .i64 (e + 1)) = (ol.set i (rd ol (i : Int) + ((j + 1 : Nat) : Int))).map (.int .i64) := by
                rw [List.map_set, List.set_set, List.map_set, ← HE.out]
                rw [show rd ol (i : Int) + (j : Int) + 1 = rd ol (i : Int) + ((j + 1 : Nat) : Int) from by omega]
              rw [← h2]
              exact (Below.heap_setCell _ _ _ (m₀ + 1) (by simp; omega)).trans h1
        · have hb2 : ((fq + 1) == fp) = false := beq_eq_false_iff_ne.2 h2
          have hb3 : decide (fq + 1 = fp) = false := decide_eq_false h2
          gi_wp2
          (refine Go.Proofs.Ytgbalmjnjpfopaa.HQuiet.region_quiet_lit (by kernel_rfl) (by kernel_rfl) (by kernel_rfl) ?_; (repeat (gi_big_quiet_step (fail))); refine wpQuietIn_nil ?_; intro _ hw'; obtain ⟨nq, hw''⟩ := hw'; subst hw'')
          gi_wp2
          exact HEND.out (coins_best.tk_no few v (p : Int) (fun h => h2 (by have := h.2; rw [HQ.out, HFQ.out, HFP.out] at this; exact this)))
      · have hd : decide (v ≤ (p : Int)) = false := decide_eq_false h1
        gi_wp2
        (refine Go.Proofs.Ytgbalmjnjpfopaa.HQuiet.region_quiet_lit (by kernel_rfl) (by kernel_rfl) (by kernel_rfl) ?_; (repeat (gi_big_quiet_step (fail))); refine wpQuietIn_nil ?_; intro _ hw'; obtain ⟨nq, hw''⟩ := hw'; subst hw'')
        gi_wp2
        exact HEND.out (coins_best.tk_no few v (p : Int) (fun h => by have := h.1; omega))
  case done =>
    rintro D ys W hD rfl ⟨⟨hA, hC, hO, hV, hF⟩, hB⟩ hK
    have hOc := hO.cell
    gi_wp2
    refine ⟨by simp, .inl ⟨_, _, rfl, run_takeDeferred hK, ?_⟩⟩
    rw [coins_best.bf_upto few l0 HV.out a1 _ (Nat.le_refl _), coins_best.bst_all] at hC
    refine ⟨_, results_tmp rfl _ _ _, _, rfl, ?_, ?_⟩
    · have := R_of_blk (base := w.heap.size) (hC.kept (grownBy_putObj' W D (.deferred none)) (by intro e; cases e; omega)) (by omega) (by rw [coins_best.bl_len]; omega)
      rw [coins_best.bl_len] at this
      exact this
    · rw [hn₀]
      exact hB.trans (belowK_b (w := W1) (by omega) W D _ _ (by omega) hK rfl rfl)
set_option maxHeartbeats 400000 in
theorem coins_best.calls (k : Nat) (A0 : Option Addr) (c0 : Nat) (l0 : List Int) (a1 : Int) (r : List Int) (w : World) (hr0 : Kd.C (Kd.int .i64) w A0 l0.length l0) (hc0 : l0.length ≤ c0) (h : coins_best.f k l0 a1 = some r) :
    Calls Try.prog 36 #[.slice A0 l0.length c0, .int .i64 a1] w fun e w' => ∃ v0_ : Value, e = .returned (v0_) ∧ Kd.R (Kd.int .i64) 3 w' w.heap.size (fun _ => True) v0_ r ∧ Below w.heap.size w w' := by
  unfold coins_best.f at h
  obtain ⟨few, hf, h⟩ := Option.bind_eq_some_iff.1 h
  split at h
  · rename_i hc
    obtain rfl := Option.some.inj h
    exact coins_best.walk k A0 c0 l0 a1 few w hr0 hc0 hf hc.1 hc.2.1 hc.2.2.1 hc.2.2.2.1 hc.2.2.2.2.1 hc.2.2.2.2.2
  · cases h
end


/-! ### coins_Best: function 20 -/
def coins_Best.f (k : Nat) (l0 : List Int) (a1 : Int) : Option (List Int × Int) := (coins_looked.f k l0 a1 100000).bind fun t159 => (if t159 = 0 then ((coins_best.f k l0 a1).bind fun t160 => (some (t160, 0))) else (some (([] : List Int), t159)))
theorem coins_Best.mono : ∀ a0 a1 k, LeO (coins_Best.f k a0 a1) (coins_Best.f (k + 1) a0 a1) := by
  intro a0 a1 k
  unfold coins_Best.f
  repeat' first
      | (with_reducible exact coins_best.mono _ _ _)
      | (with_reducible exact coins_looked.mono _ _ _ _)
      | (with_reducible exact LeO.refl _)
      | (with_reducible exact LeO.none _)
      | (with_reducible refine LeO.ite ?_ ?_)
      | (with_reducible refine LeO.bind ?_ (fun _ => ?_))
      | exact coins_best.mono _ _ _
      | exact coins_looked.mono _ _ _ _
      | exact LeO.none _
      | refine LeO.ite ?_ ?_
      | refine LeO.bind ?_ (fun _ => ?_)
set_option maxHeartbeats 8000000 in
set_option maxRecDepth 100000 in
theorem coins_Best.calls (k : Nat) (A0 : Option Addr) (c0 : Nat) (l0 : List Int) (a1 : Int) (r1 : List Int) (r2 : Int) (w : World) (hr0 : Kd.C (Kd.int .i64) w A0 l0.length l0) (hc0 : l0.length ≤ c0) (h : coins_Best.f k l0 a1 = some (r1, r2)) :
    Calls Try.prog 20 #[.slice A0 l0.length c0, .int .i64 a1] w fun e w' => ∃ v0_ : Value, e = .returned (.tuple #[v0_, .int .i64 r2]) ∧ Kd.R (Kd.int .i64) 3 w' w.heap.size (fun _ => True) v0_ r1 ∧ Below w.heap.size w w' := by
  have HR0 := Aside0.mk hr0
  have HC0 := Aside0.mk hc0
  clear hr0 hc0
  have HB := Aside0.mk (Below.refl w.heap.size w)
  have H : ((coins_looked.f k l0 a1 100000).bind fun t159 => (if t159 = 0 then ((coins_best.f k l0 a1).bind fun t160 => (some (t160, 0))) else (some (([] : List Int), t159)))) = some (r1, r2) := h
  clear h
  replace H := Option.bind_eq_some_iff.mp H
  obtain ⟨t159, A30, H⟩ := H
  replace H : (if t159 = 0 then ((coins_best.f k l0 a1).bind fun t160 => (some (t160, 0))) else (some (([] : List Int), t159))) = some (r1, r2) := H
  have A3 := Aside0.mk A30
  clear A30
  by_cases c4 : t159 = 0
  · rw [if_pos c4] at H
    have c4b0 : (t159 == 0) = true := beq_iff_eq.mpr c4
    have c4b1 : (t159 != 0) = false := bne_eq_false_iff_eq.mpr c4
    clear c4
    replace H := Option.bind_eq_some_iff.mp H
    obtain ⟨t160, A50, H⟩ := H
    replace H : (some (t160, 0)) = some (r1, r2) := H
    have A5 := Aside0.mk A50
    clear A50
    simp only [Option.some.injEq, Prod.mk.injEq] at H
    obtain ⟨rfl, rfl⟩ := H
    go_enter Try.func20, Try.ntmps20
    go_wp2_with (first | ((with_reducible refine gate_callee (f := 30) rfl ?_); refine goesL_ (some 9) rfl rfl Try.func30 (by kernel_rfl) rfl #[.slice A0 l0.length c0, .int .i64 a1, .int .i64 100000] rfl (by (try simp only [List.map_toArray, List.map_cons, List.map_nil]); first | done | rfl | (simp only [List.length_drop, List.length_take]; rfl)) ?_; (with_reducible refine (coins_looked.calls k _ _ l0 a1 100000 t159 _ ?side1 ?side2 A3.out).mono ?_); (case side1 => repeat (first | exact HR0.out | (with_reducible refine Kd.C_alloc ?_ _) | (with_reducible refine Kd.C_drewN ?_ _) | (with_reducible refine Kd.C_drew ?_))); (case side2 => exact HC0.out); rintro e w' ⟨rfl, ⟨nd, rfl⟩⟩; refine ⟨_, rfl, ?_⟩) | ((with_reducible refine gate_callee (f := 36) rfl ?_); refine goesL_ (some 15) rfl rfl Try.func36 (by kernel_rfl) rfl #[.slice A0 l0.length c0, .int .i64 a1] rfl (by (try simp only [List.map_toArray, List.map_cons, List.map_nil]); first | done | rfl | (simp only [List.length_drop, List.length_take]; rfl)) ?_; (with_reducible refine (coins_best.calls k _ _ l0 a1 t160 _ ?side1 ?side2 A5.out).mono ?_); (case side1 => repeat (first | exact HR0.out | (with_reducible refine Kd.C_alloc ?_ _) | (with_reducible refine Kd.C_drewN ?_ _) | (with_reducible refine Kd.C_drew ?_))); (case side2 => exact HC0.out); rintro e w6 ⟨v161, rfl, ho0, hb⟩; refine ⟨_, rfl, ?_⟩; have n0_ := Aside0.mk (Kd.R_lower ho0 (below_size (by repeat (first | (with_reducible first | exact HB.out | apply below_alloc | apply pw_below_drewN | apply below_drew1) | exact HB.out)))); have n1_ := Aside0.mk (below_step (by repeat (first | (with_reducible first | exact HB.out | apply below_alloc | apply pw_below_drewN | apply below_drew1) | exact HB.out)) hb); clear HB; have HO162 := n0_; have HB := n1_; clear n0_ n1_; (try clear hb); (try clear hb2); (try clear hk); (try clear hi); (try clear ho0)))
    go_ret2
    exact ⟨_, by first | rfl | (simp [errW_none, errW_some] <;> rfl) | (simp [*, errW_none, errW_some] <;> rfl), by (with_reducible repeat (first | apply Kd.R_alloc | apply Kd.R_drewN | apply Kd.R_drew)); exact HO162.out, by repeat (first | (with_reducible first | exact HB.out | apply below_alloc | apply pw_below_drewN | apply below_drew1) | exact HB.out)⟩
  · rw [if_neg c4] at H
    have c4b0 : (t159 == 0) = false := beq_eq_false_iff_ne.mpr c4
    have c4b1 : (t159 != 0) = true := bne_iff_ne.mpr c4
    simp only [Option.some.injEq, Prod.mk.injEq] at H
    obtain ⟨rfl, rfl⟩ := H
    go_enter Try.func20, Try.ntmps20
    go_wp2_with (first | ((with_reducible refine gate_callee (f := 30) rfl ?_); refine goesL_ (some 9) rfl rfl Try.func30 (by kernel_rfl) rfl #[.slice A0 l0.length c0, .int .i64 a1, .int .i64 100000] rfl (by (try simp only [List.map_toArray, List.map_cons, List.map_nil]); first | done | rfl | (simp only [List.length_drop, List.length_take]; rfl)) ?_; (with_reducible refine (coins_looked.calls k _ _ l0 a1 100000 t159 _ ?side1 ?side2 A3.out).mono ?_); (case side1 => repeat (first | exact HR0.out | (with_reducible refine Kd.C_alloc ?_ _) | (with_reducible refine Kd.C_drewN ?_ _) | (with_reducible refine Kd.C_drew ?_))); (case side2 => exact HC0.out); rintro e w' ⟨rfl, ⟨nd, rfl⟩⟩; refine ⟨_, rfl, ?_⟩))
    go_ret2
    exact ⟨_, by first | rfl | (simp [errW_none, errW_some] <;> rfl) | (simp [*, errW_none, errW_some] <;> rfl), by first | exact Kd.R_nil _ _ _ _ _ | exact Kd.N_nil _ _ _ _ _ | exact Kd.V_nil _ _ _ _ _ | exact Kd.Q_nil _ _ _ _ _ | exact Kd.S_nil _ _ _ _ _, by repeat (first | (with_reducible first | exact HB.out | apply below_alloc | apply pw_below_drewN | apply below_drew1) | exact HB.out)⟩

/-! ### bits_Mul64: function 49 -/
def bits_Mul64.f (a0 : Int) (a1 : Int) : Option (Int × Int) := some (IntKind.u64.wrap ((IntKind.u64.wrap ((IntKind.u64.wrap ((a0 / 4294967296) * (a1 / 4294967296))) + ((IntKind.u64.wrap ((IntKind.u64.wrap ((a0 / 4294967296) * (Go.bits .and .u64 a1 4294967295))) + ((IntKind.u64.wrap ((Go.bits .and .u64 a0 4294967295) * (Go.bits .and .u64 a1 4294967295))) / 4294967296))) / 4294967296))) + ((IntKind.u64.wrap ((Go.bits .and .u64 (IntKind.u64.wrap ((IntKind.u64.wrap ((a0 / 4294967296) * (Go.bits .and .u64 a1 4294967295))) + ((IntKind.u64.wrap ((Go.bits .and .u64 a0 4294967295) * (Go.bits .and .u64 a1 4294967295))) / 4294967296))) 4294967295) + (IntKind.u64.wrap ((Go.bits .and .u64 a0 4294967295) * (a1 / 4294967296))))) / 4294967296)), IntKind.u64.wrap (a0 * a1))
set_option maxHeartbeats 8000000 in
set_option maxRecDepth 100000 in
theorem bits_Mul64.calls (a0 : Int) (a1 : Int) (r1 : Int) (r2 : Int) (w : World) (h : bits_Mul64.f a0 a1 = some (r1, r2)) :
    Calls Try.prog 49 #[.int .u64 a0, .int .u64 a1] w fun e w' => e = .returned (.tuple #[.int .u64 r1, .int .u64 r2]) ∧ Drawn0 w w' := by
  have H : (some (IntKind.u64.wrap ((IntKind.u64.wrap ((IntKind.u64.wrap ((a0 / 4294967296) * (a1 / 4294967296))) + ((IntKind.u64.wrap ((IntKind.u64.wrap ((a0 / 4294967296) * (Go.bits .and .u64 a1 4294967295))) + ((IntKind.u64.wrap ((Go.bits .and .u64 a0 4294967295) * (Go.bits .and .u64 a1 4294967295))) / 4294967296))) / 4294967296))) + ((IntKind.u64.wrap ((Go.bits .and .u64 (IntKind.u64.wrap ((IntKind.u64.wrap ((a0 / 4294967296) * (Go.bits .and .u64 a1 4294967295))) + ((IntKind.u64.wrap ((Go.bits .and .u64 a0 4294967295) * (Go.bits .and .u64 a1 4294967295))) / 4294967296))) 4294967295) + (IntKind.u64.wrap ((Go.bits .and .u64 a0 4294967295) * (a1 / 4294967296))))) / 4294967296)), IntKind.u64.wrap (a0 * a1))) = some (r1, r2) := h
  clear h
  simp only [Option.some.injEq, Prod.mk.injEq] at H
  obtain ⟨rfl, rfl⟩ := H
  go_enter Try.func49, Try.ntmps49
  go_wp2
  go_ret2
  exact ⟨by first | rfl | (simp; done) | (simp [*]; done), by repeat (first | exact Drawn0.refl _ | apply Drawn0.step)⟩

/-! ### bits_Mul: function 46 -/
def bits_Mul.f (a0 : Int) (a1 : Int) : Option (Int × Int) := (bits_Mul64.f a0 a1).bind fun bt163 => (some (bt163.1, bt163.2))
set_option maxHeartbeats 8000000 in
set_option maxRecDepth 100000 in
theorem bits_Mul.calls (a0 : Int) (a1 : Int) (r1 : Int) (r2 : Int) (w : World) (h : bits_Mul.f a0 a1 = some (r1, r2)) :
    Calls Try.prog 46 #[.int .u64 a0, .int .u64 a1] w fun e w' => e = .returned (.tuple #[.int .u64 r1, .int .u64 r2]) ∧ Drawn0 w w' := by
  have H : ((bits_Mul64.f a0 a1).bind fun bt163 => (some (bt163.1, bt163.2))) = some (r1, r2) := h
  clear h
  replace H := Option.bind_eq_some_iff.mp H
  obtain ⟨⟨t163, t164⟩, A30, H⟩ := H
  replace H : (some (t163, t164)) = some (r1, r2) := H
  have A3 := Aside0.mk A30
  clear A30
  simp only [Option.some.injEq, Prod.mk.injEq] at H
  obtain ⟨rfl, rfl⟩ := H
  go_enter Try.func46, Try.ntmps46
  go_wp2_with (first | ((with_reducible refine gate_callee (f := 49) rfl ?_); refine goesL_ (some 25) rfl rfl Try.func49 (by kernel_rfl) rfl #[.int .u64 a0, .int .u64 a1] rfl (by (try simp only [List.map_toArray, List.map_cons, List.map_nil]); first | done | rfl | (simp only [List.length_drop, List.length_take]; rfl)) ?_; (with_reducible refine (bits_Mul64.calls a0 a1 t163 t164 _ A3.out).mono ?_); rintro e w' ⟨rfl, ⟨nd, rfl⟩⟩; refine ⟨_, rfl, ?_⟩))
  go_ret2
  exact ⟨by first | rfl | (simp; done) | (simp [*]; done), by repeat (first | exact Drawn0.refl _ | apply Drawn0.step)⟩

/-! ### slices_Repeat_int_int: function 42 -/
/-- slices.Repeat of a slice of one element, some times -/
def slices_Repeat_int_int.f (k : Nat) (l0 : List Int) (a1 : Int) : Option (List Int) :=
  if l0.length = 1 ∧ 1 ≤ a1 ∧ a1 ≤ 1000000 then some (List.replicate a1.toNat (rd l0 0)) else none
theorem slices_Repeat_int_int.mono : ∀ a0 a1 k, LeO (slices_Repeat_int_int.f k a0 a1) (slices_Repeat_int_int.f (k + 1) a0 a1) := fun _ _ _ => LeO.refl _

section
open Go.Proofs.Ytgbalmjnjpfopaa.HBack
theorem slices_Repeat_int_int.u64_wrap (n : Int) (h0 : 0 ≤ n) (h1 : n < 18446744073709551616) : IntKind.u64.wrap n = n := by
  simp [IntKind.wrap, IntKind.bits, IntKind.signed]; omega
theorem slices_Repeat_int_int.mask (c : Int) (h0 : 0 ≤ c) (hc : c < 1000000000) : Go.bits .and .u64 c 4294967295 = c := by
  have h := bits_mask .u64 33 (by decide) (fun n a b => slices_Repeat_int_int.u64_wrap n a (by omega)) 32 (by decide) c h0 (by omega)
  rw [show ((2 : Int) ^ 32 - 1) = 4294967295 from by decide] at h
  rw [h]
  omega
theorem slices_Repeat_int_int.mul (c : Int) (h0 : 0 ≤ c) (hc : c ≤ 1000000) : bits_Mul.f 1 c = some (0, c) := by
  have e1 := slices_Repeat_int_int.mask c h0 (by omega)
  have e2 := slices_Repeat_int_int.mask 1 (by omega) (by omega)
  have e3 := slices_Repeat_int_int.mask 0 (by omega) (by omega)
  have d1 : c / 4294967296 = 0 := by omega
  have d2 : (1 : Int) / 4294967296 = 0 := by decide
  have d3 : (0 : Int) / 4294967296 = 0 := by decide
  have w1 := slices_Repeat_int_int.u64_wrap c h0 (by omega)
  have w0 := slices_Repeat_int_int.u64_wrap 0 (by omega) (by omega)
  unfold bits_Mul.f bits_Mul64.f
  simp only [e1, e2, d1, d2, Int.zero_mul, Int.mul_zero, Int.one_mul, w0, w1, d3, Int.zero_add, Int.add_zero, e3, Option.bind_some]
set_option maxRecDepth 100000 in
set_option maxHeartbeats 400000 in
theorem slices_Repeat_int_int.walk (A0 : Option Addr) (c0 : Nat) (x : Int) (c : Nat) (w : World) (hr0 : Kd.C (Kd.int .i64) w A0 1 [x]) (hc0 : 1 ≤ c0) (h1 : 1 ≤ c) (hc : c ≤ 1000000) :
    Calls Try.prog 42 #[.slice A0 1 c0, .int .i64 (c : Int)] w fun e w' => ∃ v0_ : Value, e = .returned (v0_) ∧ Kd.R (Kd.int .i64) 3 w' w.heap.size (fun _ => True) v0_ (List.replicate c x) ∧ Below w.heap.size w w' := by
  have hmk := @print_make Try.prog 22 3 .i64 8 Try.underlying22 info3 (by decide) c (by omega)
  obtain ⟨ad, e, hx⟩ := Kd.at_int hr0 0 (by omega) (by omega)
  subst e
  clear hr0
  have hm := slices_Repeat_int_int.mul (c : Int) (by omega) (by omega)
  have HM := Lib.hid hm
  clear hm
  have d1 : decide ((c : Int) < 0) = false := decide_eq_false (by omega)
  have d2 : decide ((9223372036854775807 : Int) < (c : Int)) = false := decide_eq_false (by omega)
  have u1 := slices_Repeat_int_int.u64_wrap (c : Int) (by omega) (by omega)
  have u2 := slices_Repeat_int_int.u64_wrap 1 (by omega) (by omega)
  have u3 : IntKind.i64.wrap (c : Int) = (c : Int) := IntWalk.i64_in _ (by omega)
  go_enter Try.func42, Try.ntmps42
  go_wp2_with fail
  refine (bits_Mul.calls 1 (c : Int) 0 (c : Int) _ HM.out).mono ?_
  rintro e w' ⟨rfl, ⟨nd, rfl⟩⟩
  have s1 := blk_of_made (w.drewN nd) c
  have s2 : [Value.int IntKind.i64 x].length = Nat.min 1 c := (Nat.min_eq_left h1).symm
  have s3 : ∀ (j : Nat) (v : Value), [Value.int IntKind.i64 x][j]? = some v → ((w.drewN nd).alloc (Obj.cells (madeCells #[Value.int IntKind.i64 0] c) 3)).cell? (ad.add j) = some v := by
    intro j v hj
    cases j with
    | succ j => simp at hj
    | zero =>
      simp at hj
      subst hj
      have hb : Below w.heap.size w ((w.drewN nd).alloc (Obj.cells (madeCells #[Value.int IntKind.i64 0] c) 3)) := (pw_below_drewN (Below.refl _ w) nd).alloc (Nat.le_refl _) _
      exact (hb.cell (World.block_lt_of_cell? w _ hx)).trans hx
  have s6 : Below w.heap.size w ((w.drewN nd).alloc (Obj.cells (madeCells #[Value.int IntKind.i64 0] c) 3)) := (pw_below_drewN (Below.refl _ w) nd).alloc (Nat.le_refl _) _
  have S1 := Lib.hid s1
  have S2 := Lib.hid s2
  have S3 := Lib.hid s3
  have S6 := Lib.hid s6
  clear s1 s2 s3 s6 hx
  have hl : (List.map (Value.int .i64) (List.replicate c (0 : Int))).length = c := by simp
  have HL := Lib.hid hl
  clear hl
  go_wp2_with (first | ((with_reducible refine wpList_copy_splice rfl (.tmp 31) (.tmp 32) 22 22 rfl 3 Try.underlying22 (by kernel_rfl) (some ⟨w.heap.size, 0, none⟩) (some ad) c c 1 c0 rfl rfl w.heap.size 0 ((List.replicate c (0 : Int)).map (.int .i64)) 3 ?c1 [.int .i64 x] ?c2 ?c3 ?c4 ?c5 w.heap.size w ?c6 (Nat.le_refl _) ?_); (case c1 => exact S1.out); (case c2 => exact S2.out); (case c3 => exact fun _ => ⟨rfl, ad, rfl, S3.out⟩); (case c4 => have := HL.out; simp; omega); (case c5 => simp [Value.oneCell']); (case c6 => exact S6.out); intro w2 hw2 hB2) | fail)
  have HB2 := Lib.hid hB2
  clear hB2
  go_loopw [8] (fun n wr => ∃ m : Nat, 1 ≤ m ∧ m ≤ c ∧ n = .int .i64 (m : Int) ∧ Hid (Blk wr w.heap.size 3 ((List.replicate m x ++ List.replicate (c - m) (0 : Int)).map (.int .i64))) ∧ Hid (Below w.heap.size w wr)) (fun n _ => c - (intOf n).toNat)
  case atStart =>
    refine ⟨1, Nat.le_refl _, h1, rfl, Lib.hid ?_, HB2⟩
    have h := hw2.out
    unfold Blk
    rw [h]
    obtain ⟨d, rfl⟩ : ∃ d, c = d + 1 := ⟨c - 1, by omega⟩
    simp [splice, List.replicate_succ]
  case round =>
    obtain ⟨m, hm1, hm2, rfl, hBl, hBw⟩ := hrel
    by_cases hlt : m < c
    · have hd : decide ((m : Int) < (c : Int)) = true := decide_eq_true (by omega)
      go_wp2
      obtain ⟨d, hdm⟩ : ∃ d, Nat.min m (c - m) = d := ⟨_, rfl⟩
      have hd1 : 1 ≤ d := by have := Nat.min_def (n := m) (m := c - m); rw [← hdm]; show 1 ≤ min m (c - m); omega
      have hd2 : m + d ≤ c := by rw [← hdm]; have : min m (c - m) ≤ c - m := Nat.min_le_right _ _; show m + min m (c - m) ≤ c; omega
      have hd3 : d ≤ m := by rw [← hdm]; exact Nat.min_le_left _ _
      have k1 : wr.heap[w.heap.size]? = some (.cells ((List.replicate m x ++ List.replicate (c - m) (0 : Int)).map (Value.int .i64)).toArray 3 (0, 0)) := hBl.out
      have k2 : ((List.replicate d x).map (Value.int .i64)).length = Nat.min m (c - m) := by rw [hdm]; simp
      have k3 : ∀ (j : Nat) (v : Value), ((List.replicate d x).map (Value.int .i64))[j]? = some v → wr.cell? ((⟨w.heap.size, 0, none⟩ : Addr).add j) = some v := by
        intro j v hj
        obtain ⟨hl, hv⟩ := List.getElem?_eq_some_iff.1 hj
        simp at hl hv
        subst hv
        have : (⟨w.heap.size, 0, none⟩ : Addr).add j = ⟨w.heap.size, j, none⟩ := by
          unfold Addr.add
          split
          · rename_i h; rw [h]
          · simp
        rw [this]
        refine Blk.cell_of hBl.out ?_
        rw [List.getElem?_map, List.getElem?_append_left (by simp; omega), List.getElem?_replicate, if_pos (by omega)]
        rfl
      have K1 := Lib.hid k1
      have K2 := Lib.hid k2
      have K3 := Lib.hid k3
      have HDM := Lib.hid hdm
      clear k1 k2 k3 hdm
      have hcm : ¬ c = m := by omega
      go_region_law ((refine step_copy_splice rfl (.tmp 41) (.tmp 44) 22 22 rfl 3 Try.underlying22 (by kernel_rfl) (some ⟨w.heap.size, m, none⟩) (some ⟨w.heap.size, 0, none⟩) (c - m) (c - m) m c (by simp [Act.eval, Act.put]) (by simp [Act.eval, Act.put]) w.heap.size m ((List.replicate m x ++ List.replicate (c - m) (0 : Int)).map (.int .i64)) 3 K1.out ((List.replicate d x).map (.int .i64)) K2.out (fun _ => ⟨rfl, _, rfl, K3.out⟩) (by simp; omega) (by simp [Value.oneCell']) w.heap.size w (below_drew1 hBw.out) (Nat.le_refl _) ?_; intro w4 hg4 hb4))
      go_simp
      rw [show IntKind.i64.wrap ((m : Int) + (d : Int)) = ((m + d : Nat) : Int) from by rw [IntWalk.i64_in _ (by omega)]; simp]
      refine ⟨?rel, ?measure⟩
      case rel =>
        refine ⟨_, _, _, _, _, _, _, _, _, _, _, _, _, _, ⟨m + d, by omega, hd2, rfl, Lib.hid ?_, Lib.hid hb4⟩, rfl⟩
        have h := hg4.out
        unfold Blk
        rw [h]
        have e1 : splice ((List.replicate m x ++ List.replicate (c - m) (0 : Int)).map (Value.int .i64)) m ((List.replicate d x).map (Value.int .i64)) = (List.replicate (m + d) x ++ List.replicate (c - (m + d)) (0 : Int)).map (Value.int .i64) := by
          unfold splice
          rw [← List.map_take, ← List.map_drop, ← List.map_append, ← List.map_append]
          congr 1
          have t1 : (List.replicate m x ++ List.replicate (c - m) (0 : Int)).take m = List.replicate m x := by
            rw [List.take_append_of_le_length (by simp), List.take_of_length_le (by simp)]
          have t2 : (List.replicate m x ++ List.replicate (c - m) (0 : Int)).drop (m + ((List.replicate d x).map (Value.int .i64)).length) = List.replicate (c - (m + d)) 0 := by
            rw [List.drop_append, List.drop_of_length_le (by simp), List.nil_append, List.drop_replicate]
            simp
            omega
          rw [t1, t2, ← List.append_assoc, List.replicate_append_replicate]
        rw [e1]
      case measure => simp [intOf] <;> omega
    · obtain rfl : m = c := by omega
      have hd : decide ((m : Int) < (m : Int)) = false := decide_eq_false (by omega)
      go_wp2
      have hfin := R_of_blk (base := w.heap.size) hBl.out (Nat.le_refl _) (by simp; omega)
      simp only [Nat.sub_self, List.replicate_zero, List.append_nil, List.length_replicate] at hfin
      go_ret
      exact ⟨_, rfl, hfin, hBw.out⟩
set_option maxHeartbeats 400000 in
theorem slices_Repeat_int_int.calls (k : Nat) (A0 : Option Addr) (c0 : Nat) (l0 : List Int) (a1 : Int) (r : List Int) (w : World) (hr0 : Kd.C (Kd.int .i64) w A0 l0.length l0) (hc0 : l0.length ≤ c0) (h : slices_Repeat_int_int.f k l0 a1 = some r) :
    Calls Try.prog 42 #[.slice A0 l0.length c0, .int .i64 a1] w fun e w' => ∃ v0_ : Value, e = .returned (v0_) ∧ Kd.R (Kd.int .i64) 3 w' w.heap.size (fun _ => True) v0_ r ∧ Below w.heap.size w w' := by
  unfold slices_Repeat_int_int.f at h
  split at h
  · rename_i hc
    obtain rfl := Option.some.inj h
    obtain ⟨h1, h2, h3⟩ := hc
    obtain ⟨x, rfl⟩ := List.length_eq_one_iff.1 h1
    obtain ⟨c, rfl⟩ := Int.eq_ofNat_of_zero_le (show 0 ≤ a1 by omega)
    rw [Int.toNat_natCast]
    exact slices_Repeat_int_int.walk A0 c0 x c w hr0 hc0 (by omega) (by omega)
  · cases h
end


/-! ### coins_Both: function 28 -/
mutual
def coins_Both.l0 : Nat → List Int → Int → Int → List Int → List Int → Option (Int × Int)
  | 0, _, _, _, _, _ => none
  | k + 1, x0, x1, x7, x8, x9 => if 0 < (x9.length : Int) then (if 1 ≤ (x9.length : Int) then (if (rd x9 0) = (wrap64 (x1 + x7)) then (if 0 ≤ (rd x9 0) then (if (rd x9 0) < (x8.length : Int) then (some (rd x8 (rd x9 0), 0)) else (none)) else (none)) else (coins_Both.l1 k x0 x1 x7 x8 (x9.drop (1 : Int).toNat) (rd x9 0) x0 (x0.length : Int) 0)) else (none)) else (none)
def coins_Both.l1 : Nat → List Int → Int → Int → List Int → List Int → Int → List Int → Int → Int → Option (Int × Int)
  | 0, _, _, _, _, _, _, _, _, _ => none
  | k + 1, x0, x1, x7, x8, x9, x10, x53, x54, x55 => if x55 < x54 then (if 0 ≤ x55 then (if x55 < (x53.length : Int) then ((some (([wrap64 (x10 - (rd x53 x55)), wrap64 (x10 + (rd x53 x55))] : List Int) : List Int)).bind fun y189 => (coins_Both.l2 k x0 x1 x7 x8 x9 x10 x53 x54 x55 y189 (y189.length : Int) 0)) else (none)) else (none)) else (coins_Both.l0 k x0 x1 x7 x8 x9)
def coins_Both.l2 : Nat → List Int → Int → Int → List Int → List Int → Int → List Int → Int → Int → List Int → Int → Int → Option (Int × Int)
  | 0, _, _, _, _, _, _, _, _, _, _, _, _ => none
  | k + 1, x0, x1, x7, x8, x9, x10, x53, x54, x55, x65, x66, x67 => if x67 < x66 then (if 0 ≤ x67 then (if x67 < (x65.length : Int) then (if (rd x65 x67) ≥ 0 then (if (rd x65 x67) < (x8.length : Int) then (if 0 ≤ (rd x65 x67) then (if (rd x8 (rd x65 x67)) < 0 then (if 0 ≤ x10 then (if x10 < (x8.length : Int) then (if x9.length < 17592186044416 then (coins_Both.l2 k x0 x1 x7 (x8.set ((rd x65 x67) : Int).toNat (wrap64 ((rd x8 x10) + 1))) (x9 ++ [rd x65 x67]) x10 x53 x54 x55 x65 x66 (wrap64 (x67 + 1))) else (none)) else (none)) else (none)) else (coins_Both.l2 k x0 x1 x7 x8 x9 x10 x53 x54 x55 x65 x66 (wrap64 (x67 + 1)))) else (none)) else (coins_Both.l2 k x0 x1 x7 x8 x9 x10 x53 x54 x55 x65 x66 (wrap64 (x67 + 1)))) else (coins_Both.l2 k x0 x1 x7 x8 x9 x10 x53 x54 x55 x65 x66 (wrap64 (x67 + 1)))) else (none)) else (none)) else (coins_Both.l1 k x0 x1 x7 x8 x9 x10 x53 x54 (wrap64 (x55 + 1)))
end
def coins_Both.f (k : Nat) (l0 : List Int) (a1 : Int) : Option (Int × Int) := (coins_looked.f k l0 a1 100000).bind fun t171 => (if t171 = 0 then (if 0 ≤ (wrap64 ((l0.length : Int) - 1)) then (if (wrap64 ((l0.length : Int) - 1)) < (l0.length : Int) then ((slices_Repeat_int_int.f k (([(-1)] : List Int)) (wrap64 ((wrap64 (a1 + (wrap64 (2 * (rd l0 (wrap64 ((l0.length : Int) - 1))))))) + 1))).bind fun t176 => (if 0 ≤ (rd l0 (wrap64 ((l0.length : Int) - 1))) then (if (rd l0 (wrap64 ((l0.length : Int) - 1))) < (t176.length : Int) then (coins_Both.l0 k l0 a1 (rd l0 (wrap64 ((l0.length : Int) - 1))) (t176.set ((rd l0 (wrap64 ((l0.length : Int) - 1))) : Int).toNat 0) (([rd l0 (wrap64 ((l0.length : Int) - 1))] : List Int))) else (none)) else (none))) else (none)) else (none)) else (some (0, t171)))
theorem coins_Both.mono_l : ∀ k, (∀ y0 y1 y2 y3 y4, LeO (coins_Both.l0 k y0 y1 y2 y3 y4) (coins_Both.l0 (k + 1) y0 y1 y2 y3 y4)) ∧ (∀ y0 y1 y2 y3 y4 y5 y6 y7 y8, LeO (coins_Both.l1 k y0 y1 y2 y3 y4 y5 y6 y7 y8) (coins_Both.l1 (k + 1) y0 y1 y2 y3 y4 y5 y6 y7 y8)) ∧ (∀ y0 y1 y2 y3 y4 y5 y6 y7 y8 y9 y10 y11, LeO (coins_Both.l2 k y0 y1 y2 y3 y4 y5 y6 y7 y8 y9 y10 y11) (coins_Both.l2 (k + 1) y0 y1 y2 y3 y4 y5 y6 y7 y8 y9 y10 y11))
  | 0 => ⟨fun _ _ _ _ _ r h => by simp [coins_Both.l0] at h, fun _ _ _ _ _ _ _ _ _ r h => by simp [coins_Both.l1] at h, fun _ _ _ _ _ _ _ _ _ _ _ _ r h => by simp [coins_Both.l2] at h⟩
  | k + 1 => by
    obtain ⟨ih0, ih1, ih2⟩ := coins_Both.mono_l k
    refine ⟨?_, ?_, ?_⟩
    · intro y0 y1 y2 y3 y4
      unfold coins_Both.l0
      repeat' first
      | (with_reducible exact ih0 _ _ _ _ _)
      | (with_reducible exact ih1 _ _ _ _ _ _ _ _ _)
      | (with_reducible exact ih2 _ _ _ _ _ _ _ _ _ _ _ _)
      | (with_reducible exact coins_looked.mono _ _ _ _)
      | (with_reducible exact slices_Repeat_int_int.mono _ _ _)
      | (with_reducible exact LeO.refl _)
      | (with_reducible exact LeO.none _)
      | (with_reducible refine LeO.ite ?_ ?_)
      | (with_reducible refine LeO.bind ?_ (fun _ => ?_))
      | exact ih0 _ _ _ _ _
      | exact ih1 _ _ _ _ _ _ _ _ _
      | exact ih2 _ _ _ _ _ _ _ _ _ _ _ _
      | exact coins_looked.mono _ _ _ _
      | exact slices_Repeat_int_int.mono _ _ _
      | exact LeO.none _
      | refine LeO.ite ?_ ?_
      | refine LeO.bind ?_ (fun _ => ?_)
    · intro y0 y1 y2 y3 y4 y5 y6 y7 y8
      unfold coins_Both.l1
      repeat' first
      | (with_reducible exact ih0 _ _ _ _ _)
      | (with_reducible exact ih1 _ _ _ _ _ _ _ _ _)
      | (with_reducible exact ih2 _ _ _ _ _ _ _ _ _ _ _ _)
      | (with_reducible exact coins_looked.mono _ _ _ _)
      | (with_reducible exact slices_Repeat_int_int.mono _ _ _)
      | (with_reducible exact LeO.refl _)
      | (with_reducible exact LeO.none _)
      | (with_reducible refine LeO.ite ?_ ?_)
      | (with_reducible refine LeO.bind ?_ (fun _ => ?_))
      | exact ih0 _ _ _ _ _
      | exact ih1 _ _ _ _ _ _ _ _ _
      | exact ih2 _ _ _ _ _ _ _ _ _ _ _ _
      | exact coins_looked.mono _ _ _ _
      | exact slices_Repeat_int_int.mono _ _ _
      | exact LeO.none _
      | refine LeO.ite ?_ ?_
      | refine LeO.bind ?_ (fun _ => ?_)
    · intro y0 y1 y2 y3 y4 y5 y6 y7 y8 y9 y10 y11
      unfold coins_Both.l2
      repeat' first
      | (with_reducible exact ih0 _ _ _ _ _)
      | (with_reducible exact ih1 _ _ _ _ _ _ _ _ _)
      | (with_reducible exact ih2 _ _ _ _ _ _ _ _ _ _ _ _)
      | (with_reducible exact coins_looked.mono _ _ _ _)
      | (with_reducible exact slices_Repeat_int_int.mono _ _ _)
      | (with_reducible exact LeO.refl _)
      | (with_reducible exact LeO.none _)
      | (with_reducible refine LeO.ite ?_ ?_)
      | (with_reducible refine LeO.bind ?_ (fun _ => ?_))
      | exact ih0 _ _ _ _ _
      | exact ih1 _ _ _ _ _ _ _ _ _
      | exact ih2 _ _ _ _ _ _ _ _ _ _ _ _
      | exact coins_looked.mono _ _ _ _
      | exact slices_Repeat_int_int.mono _ _ _
      | exact LeO.none _
      | refine LeO.ite ?_ ?_
      | refine LeO.bind ?_ (fun _ => ?_)
theorem coins_Both.mono : ∀ a0 a1 k, LeO (coins_Both.f k a0 a1) (coins_Both.f (k + 1) a0 a1) := by
  intro a0 a1 k
  obtain ⟨ih0, ih1, ih2⟩ := coins_Both.mono_l k
  unfold coins_Both.f
  repeat' first
      | (with_reducible exact ih0 _ _ _ _ _)
      | (with_reducible exact ih1 _ _ _ _ _ _ _ _ _)
      | (with_reducible exact ih2 _ _ _ _ _ _ _ _ _ _ _ _)
      | (with_reducible exact coins_looked.mono _ _ _ _)
      | (with_reducible exact slices_Repeat_int_int.mono _ _ _)
      | (with_reducible exact LeO.refl _)
      | (with_reducible exact LeO.none _)
      | (with_reducible refine LeO.ite ?_ ?_)
      | (with_reducible refine LeO.bind ?_ (fun _ => ?_))
      | exact ih0 _ _ _ _ _
      | exact ih1 _ _ _ _ _ _ _ _ _
      | exact ih2 _ _ _ _ _ _ _ _ _ _ _ _
      | exact coins_looked.mono _ _ _ _
      | exact slices_Repeat_int_int.mono _ _ _
      | exact LeO.none _
      | refine LeO.ite ?_ ?_
      | refine LeO.bind ?_ (fun _ => ?_)
set_option maxHeartbeats 8000000 in
set_option maxRecDepth 100000 in
theorem coins_Both.calls (k : Nat) (A0 : Option Addr) (c0 : Nat) (l0 : List Int) (a1 : Int) (r1 : Int) (r2 : Int) (w : World) (hr0 : Kd.C (Kd.int .i64) w A0 l0.length l0) (hc0 : l0.length ≤ c0) (h : coins_Both.f k l0 a1 = some (r1, r2)) :
    Calls Try.prog 28 #[.slice A0 l0.length c0, .int .i64 a1] w fun e w' => e = .returned (.tuple #[.int .i64 r1, .int .i64 r2]) ∧ Below w.heap.size w w' := by
  have HR0 := Aside0.mk hr0
  have HC0 := Aside0.mk hc0
  clear hr0 hc0
  have HB := Aside0.mk (Below.refl w.heap.size w)
  have H : ((coins_looked.f k l0 a1 100000).bind fun t171 => (if t171 = 0 then (if 0 ≤ (wrap64 ((l0.length : Int) - 1)) then (if (wrap64 ((l0.length : Int) - 1)) < (l0.length : Int) then ((slices_Repeat_int_int.f k (([(-1)] : List Int)) (wrap64 ((wrap64 (a1 + (wrap64 (2 * (rd l0 (wrap64 ((l0.length : Int) - 1))))))) + 1))).bind fun t176 => (if 0 ≤ (rd l0 (wrap64 ((l0.length : Int) - 1))) then (if (rd l0 (wrap64 ((l0.length : Int) - 1))) < (t176.length : Int) then (coins_Both.l0 k l0 a1 (rd l0 (wrap64 ((l0.length : Int) - 1))) (t176.set ((rd l0 (wrap64 ((l0.length : Int) - 1))) : Int).toNat 0) (([rd l0 (wrap64 ((l0.length : Int) - 1))] : List Int))) else (none)) else (none))) else (none)) else (none)) else (some (0, t171)))) = some (r1, r2) := h
  clear h
  replace H := Option.bind_eq_some_iff.mp H
  obtain ⟨t171, A30, H⟩ := H
  replace H : (if t171 = 0 then (if 0 ≤ (wrap64 ((l0.length : Int) - 1)) then (if (wrap64 ((l0.length : Int) - 1)) < (l0.length : Int) then ((slices_Repeat_int_int.f k (([(-1)] : List Int)) (wrap64 ((wrap64 (a1 + (wrap64 (2 * (rd l0 (wrap64 ((l0.length : Int) - 1))))))) + 1))).bind fun t176 => (if 0 ≤ (rd l0 (wrap64 ((l0.length : Int) - 1))) then (if (rd l0 (wrap64 ((l0.length : Int) - 1))) < (t176.length : Int) then (coins_Both.l0 k l0 a1 (rd l0 (wrap64 ((l0.length : Int) - 1))) (t176.set ((rd l0 (wrap64 ((l0.length : Int) - 1))) : Int).toNat 0) (([rd l0 (wrap64 ((l0.length : Int) - 1))] : List Int))) else (none)) else (none))) else (none)) else (none)) else (some (0, t171))) = some (r1, r2) := H
  have A3 := Aside0.mk A30
  clear A30
  by_cases c4 : t171 = 0
  · rw [if_pos c4] at H
    have c4b0 : (t171 == 0) = true := beq_iff_eq.mpr c4
    have c4b1 : (t171 != 0) = false := bne_eq_false_iff_eq.mpr c4
    clear c4
    obtain ⟨ji5, hji5⟩ : ∃ j_ : Int, (wrap64 ((l0.length : Int) - 1)) = j_ := ⟨_, rfl⟩
    replace H : (if 0 ≤ (ji5) then (if (ji5) < (l0.length : Int) then ((slices_Repeat_int_int.f k (([(-1)] : List Int)) (wrap64 ((wrap64 (a1 + (wrap64 (2 * (rd l0 (ji5)))))) + 1))).bind fun t176 => (if 0 ≤ (rd l0 (ji5)) then (if (rd l0 (ji5)) < (t176.length : Int) then (coins_Both.l0 k l0 a1 (rd l0 (ji5)) (t176.set ((rd l0 (ji5)) : Int).toNat 0) (([rd l0 (ji5)] : List Int))) else (none)) else (none))) else (none)) else (none)) = some (r1, r2) := by first | (rw [hji5] at H; exact H) | (simp only [hji5] at H ⊢; exact H)
    (try rw [hji5] at A3)
    have hji5w : (IntKind.i64.wrap ((l0.length : Int) - 1)) = ji5 := (i64_w _).trans hji5
    by_cases c6 : 0 ≤ (ji5)
    · rw [if_pos c6] at H
      have c6b0 : decide (0 ≤ (ji5)) = true := decide_eq_true c6
      clear c6
      by_cases c7 : (ji5) < (l0.length : Int)
      · rw [if_pos c7] at H
        have c7b0 : decide ((ji5) < (l0.length : Int)) = true := decide_eq_true c7
        clear c7
        obtain ⟨y173, hy173⟩ : ∃ y_ : List Int, y_ = (([(-1)] : List Int)) := ⟨_, rfl⟩
        replace H : ((slices_Repeat_int_int.f k y173 (wrap64 ((wrap64 (a1 + (wrap64 (2 * (rd l0 (ji5)))))) + 1))).bind fun t176 => (if 0 ≤ (rd l0 (ji5)) then (if (rd l0 (ji5)) < (t176.length : Int) then (coins_Both.l0 k l0 a1 (rd l0 (ji5)) (t176.set ((rd l0 (ji5)) : Int).toNat 0) (([rd l0 (ji5)] : List Int))) else (none)) else (none))) = some (r1, r2) := by first | (rw [hy173]; with_reducible exact H) | (have H2_ := (Option.bind_some _ _).symm.trans H; rw [hy173]; with_reducible exact H2_) | (have H2_ := (Option.bind_some _ _).symm.trans H; with_reducible exact H2_) | with_reducible exact H | (rw [hy173]; exact H) | exact H
        have Ny173 := Aside0.mk hy173
        clear hy173
        replace H := Option.bind_eq_some_iff.mp H
        obtain ⟨t176, A80, H⟩ := H
        replace H : (if 0 ≤ (rd l0 (ji5)) then (if (rd l0 (ji5)) < (t176.length : Int) then (coins_Both.l0 k l0 a1 (rd l0 (ji5)) (t176.set ((rd l0 (ji5)) : Int).toNat 0) (([rd l0 (ji5)] : List Int))) else (none)) else (none)) = some (r1, r2) := H
        have A8 := Aside0.mk A80
        clear A80
        obtain ⟨y179, hy179⟩ : ∃ y_ : List Int, y_ = (([rd l0 (ji5)] : List Int)) := ⟨_, rfl⟩
        replace H : (if 0 ≤ (rd l0 (ji5)) then (if (rd l0 (ji5)) < (t176.length : Int) then (coins_Both.l0 k l0 a1 (rd l0 (ji5)) (t176.set ((rd l0 (ji5)) : Int).toNat 0) y179) else (none)) else (none)) = some (r1, r2) := by first | (rw [hy179]; with_reducible exact H) | (have H2_ := (Option.bind_some _ _).symm.trans H; rw [hy179]; with_reducible exact H2_) | (have H2_ := (Option.bind_some _ _).symm.trans H; with_reducible exact H2_) | with_reducible exact H | (rw [hy179]; exact H) | exact H
        have Ny179 := Aside0.mk hy179
        clear hy179
        by_cases c9 : 0 ≤ (rd l0 (ji5))
        · rw [if_pos c9] at H
          have c9b0 : decide (0 ≤ (rd l0 (ji5))) = true := decide_eq_true c9
          clear c9
          by_cases c10 : (rd l0 (ji5)) < (t176.length : Int)
          · rw [if_pos c10] at H
            have c10b0 : decide ((rd l0 (ji5)) < (t176.length : Int)) = true := decide_eq_true c10
            clear c10
            obtain ⟨y182, hy182⟩ : ∃ y_ : List Int, y_ = (t176.set ((rd l0 (ji5)) : Int).toNat 0) := ⟨_, rfl⟩
            replace H : (coins_Both.l0 k l0 a1 (rd l0 (ji5)) y182 y179) = some (r1, r2) := by first | (rw [hy182]; with_reducible exact H) | (have H2_ := (Option.bind_some _ _).symm.trans H; rw [hy182]; with_reducible exact H2_) | (have H2_ := (Option.bind_some _ _).symm.trans H; with_reducible exact H2_) | with_reducible exact H | (rw [hy182]; exact H) | exact H
            have Ny182 := Aside0.mk hy182
            clear hy182
            have H' := Aside0.mk H
            clear H
            go_enter Try.func28, Try.ntmps28
            go_wp2_with (first | ((with_reducible refine gate_callee (f := 30) rfl ?_); refine goesL_ (some 17) rfl rfl Try.func30 (by kernel_rfl) rfl #[.slice A0 l0.length c0, .int .i64 a1, .int .i64 100000] rfl (by (try simp only [List.map_toArray, List.map_cons, List.map_nil]); first | done | rfl | (simp only [List.length_drop, List.length_take]; rfl)) ?_; (with_reducible refine (coins_looked.calls k _ _ l0 a1 100000 t171 _ ?side1 ?side2 A3.out).mono ?_); (case side1 => repeat (first | exact HR0.out | (with_reducible refine Kd.C_alloc ?_ _) | (with_reducible refine Kd.C_drewN ?_ _) | (with_reducible refine Kd.C_drew ?_))); (case side2 => exact HC0.out); rintro e w' ⟨rfl, ⟨nd, rfl⟩⟩; refine ⟨_, rfl, ?_⟩; have p172 : 0 ≤ ((ji5) : Int) := of_decide_eq_true (by first | (with_reducible assumption) | assumption); have q172 : (ji5) < (l0.length : Int) := of_decide_eq_true (by first | (with_reducible assumption) | assumption); obtain ⟨ad172, e172, hx172_0⟩ := Kd.at_int HR0.out (ji5) p172 q172; cases e172; replace p172 := eq_true p172; replace q172 := eq_true q172) | ((with_reducible refine gate_dst (N := 27) rfl ?_); (try (refine gate_guard (by rfl) ?_; dsimp only)); refine Kd.R_lit (Kd.int .i64) _ 3 ?hg (N := 27) ?hd (xs := ([(-1)] : List Int)) (inner := [.int .i64 (-1)]) (ok := fun _ => True) (okp := fun _ => True) ?hr ?hp (fun _ hk => hk) trivial (Below.refl _ _) (Nat.le_refl _) (by simp) ?_; (case hd => rfl); (case hg => rfl); (case hr => first | (go_simp; done) | (go_simp; rfl)); (case hp => exact (Reps.one (show Kd.M (Kd.int .i64) _ _ _ (-1) [.int .i64 (-1)] from rfl) (Reps.none _ _))); intro v174 w12 ho13 hb hg_ hnew_; clear hg_ hnew_; (first | rw [← Ny173.out] at ho13 | (simp only [Int.reduceToNat] at ho13; rw [← Ny173.out] at ho13)); have n0_ := Aside0.mk (Kd.R_lower ho13 (below_size (by repeat (first | (with_reducible first | exact HB.out | apply below_alloc | apply pw_below_drewN | apply below_drew1) | exact HB.out)))); have n1_ := Aside0.mk (below_step (by repeat (first | (with_reducible first | exact HB.out | apply below_alloc | apply pw_below_drewN | apply below_drew1) | exact HB.out)) hb); clear HB; have HO175 := n0_; have HB := n1_; clear n0_ n1_; clear hb ho13; obtain ⟨Ao14, co14, eo14⟩ := Kd.R_slice HO175.out; subst eo14) | ((with_reducible refine gate_callee (f := 42) rfl ?_); refine goesL_ (some 33) rfl rfl Try.func42 (by kernel_rfl) rfl #[.slice Ao14 y173.length co14, .int .i64 (wrap64 ((wrap64 (a1 + (wrap64 (2 * (rd l0 (ji5)))))) + 1))] rfl (by (try simp only [List.map_toArray, List.map_cons, List.map_nil]); first | done | (simp only [hji5]; rfl) | rfl | (simp only [List.length_drop, List.length_take]; rfl)) ?_; (with_reducible refine (slices_Repeat_int_int.calls k _ _ y173 (wrap64 ((wrap64 (a1 + (wrap64 (2 * (rd l0 (ji5)))))) + 1)) t176 _ ?side1 ?side2 A8.out).mono ?_); (case side1 => repeat (first | exact (Kd.R_reads' HO175.out).2.2 | (with_reducible refine Kd.C_alloc ?_ _) | (with_reducible refine Kd.C_drewN ?_ _) | (with_reducible refine Kd.C_drew ?_))); (case side2 => exact (Kd.R_reads' HO175.out).2.1); rintro e w15 ⟨v177, rfl, ho0, hb⟩; refine ⟨_, rfl, ?_⟩; have n0_ := Aside0.mk (Kd.R_elder' (by (with_reducible repeat (first | apply Kd.R_alloc | apply Kd.R_drewN | apply Kd.R_drew)); exact HO175.out) (Kd.R_base ho0) hb); have n1_ := Aside0.mk (Kd.R_lower (Kd.R_new' ho0 (Kd.R_lt (by (with_reducible repeat (first | apply Kd.R_alloc | apply Kd.R_drewN | apply Kd.R_drew)); exact HO175.out))) (below_size (by repeat (first | (with_reducible first | exact HB.out | apply below_alloc | apply pw_below_drewN | apply below_drew1) | exact HB.out)))); have n2_ := Aside0.mk (below_step (by repeat (first | (with_reducible first | exact HB.out | apply below_alloc | apply pw_below_drewN | apply below_drew1) | exact HB.out)) hb); clear HO175; clear HB; have HO175 := n0_; have HO178 := n1_; have HB := n2_; clear n0_ n1_ n2_; (try clear hb); (try clear hb2); (try clear hk); (try clear hi); (try clear ho0)) | ((with_reducible refine gate_dst (N := 35) rfl ?_); (try (refine gate_guard (by rfl) ?_; dsimp only)); refine Kd.R_lit (Kd.int .i64) _ 3 ?hg (N := 35) ?hd (xs := ([rd l0 (ji5)] : List Int)) (inner := [.int .i64 (rd l0 (ji5))]) (ok := fun _ => True) (okp := fun _ => True) ?hr ?hp (fun _ hk => hk) trivial (Below.refl _ _) (Nat.le_refl _) (by simp) ?_; (case hd => rfl); (case hg => rfl); (case hr => first | (go_simp; done) | (go_simp; rfl)); (case hp => exact (Reps.one (show Kd.M (Kd.int .i64) _ _ _ (rd l0 (ji5)) [.int .i64 (rd l0 (ji5))] from rfl) (Reps.none _ _))); intro v180 w16 ho17 hb hg_ hnew_; clear hg_ hnew_; (first | rw [← Ny179.out] at ho17 | (simp only [Int.reduceToNat] at ho17; rw [← Ny179.out] at ho17)); have n0_ := Aside0.mk (Kd.R_elder' (by (with_reducible repeat (first | apply Kd.R_alloc | apply Kd.R_drewN | apply Kd.R_drew)); exact HO175.out) (Kd.R_base ho17) hb); have n1_ := Aside0.mk (Kd.R_elder' (by (with_reducible repeat (first | apply Kd.R_alloc | apply Kd.R_drewN | apply Kd.R_drew)); exact HO178.out) (Kd.R_base ho17) hb); have n2_ := Aside0.mk (Kd.R_lower (Kd.R_new' (Kd.R_new' ho17 (Kd.R_lt (by (with_reducible repeat (first | apply Kd.R_alloc | apply Kd.R_drewN | apply Kd.R_drew)); exact HO175.out))) (Kd.R_lt (by (with_reducible repeat (first | apply Kd.R_alloc | apply Kd.R_drewN | apply Kd.R_drew)); exact HO178.out))) (below_size (by repeat (first | (with_reducible first | exact HB.out | apply below_alloc | apply pw_below_drewN | apply below_drew1) | exact HB.out)))); have n3_ := Aside0.mk (below_step (by repeat (first | (with_reducible first | exact HB.out | apply below_alloc | apply pw_below_drewN | apply below_drew1) | exact HB.out)) hb); clear HO175; clear HO178; clear HB; have HO175 := n0_; have HO178 := n1_; have HO181 := n2_; have HB := n3_; clear n0_ n1_ n2_ n3_; clear hb ho17; have p11 : 0 ≤ ((rd l0 (ji5)) : Int) := of_decide_eq_true (by first | (with_reducible assumption) | assumption); have q11 : ((rd l0 (ji5)) : Int) < ((t176.length : Int) : Int) := of_decide_eq_true (by first | (with_reducible assumption) | assumption); obtain ⟨go11, co11, eo11, gb11, gl11, cl11, HG11⟩ := Kd.R_form HO178.out (by omega); (first | cases eo11 | (injection eo11 with ea_ en_ ec_; (first | subst ea_ | (injection ea_ with ea_; subst ea_)); subst ec_; clear en_)); have GB11 := Aside0.mk gb11; have GG11 := Aside0.mk HG11; clear gb11 gl11 HG11; obtain ⟨hx11_0, hf11_0⟩ := Kd.R_celln 0 HO178.out ((rd l0 (ji5)) : Int) p11 q11; replace p11 := eq_true p11; replace q11 := eq_true q11; have n_ := Aside0.mk (Kd.R_mono (ok' := (fun k_ => some k_ ≠ (.slice Ao14 y173.length co14 : Value).ownBlock ∧ some k_ ≠ (v180 : Value).ownBlock)) HO178.out (fun k_ hk => ⟨hk.1.2, hk.2⟩)); clear HO178; have HO178 := n_; clear n_; obtain ⟨hy18_, hz18_⟩ := Kd.R_celln 0 HO178.out ((rd l0 (ji5)) : Int) (of_decide_eq_true (by first | (with_reducible assumption) | assumption)) (of_decide_eq_true (by first | (with_reducible assumption) | assumption)); have HP18 := Kd.R_putg HO178.out ((rd l0 (ji5)) : Int) 0) | ((with_reducible refine gate_store (t := 3) (p := 38) rfl ?_); refine store_event (t := 3) (p := 38) (v := ?vo_w19) (w1 := (w16.setCell ⟨go11, ((rd l0 (ji5)) : Int).toNat, none⟩ (.int .i64 0))) ?hg ?ho ?hn ?hr ?_; (case ho => rfl); (case hg => rfl); (case hn => rfl); (case hr => first | (go_simp; done) | (go_simp; rfl)); intro w19 hw; have hg : w16.grownBy w19 (some go11) := (by rw [hw]; exact HP18.2); have hp_ : Kd.R (Kd.int .i64) 3 w19 w.heap.size (fun k_ => some k_ ≠ (.slice Ao14 y173.length co14 : Value).ownBlock ∧ some k_ ≠ (v180 : Value).ownBlock) (.slice (some ⟨go11, 0, none⟩) t176.length co11) y182 := (by rw [hw, Ny182.out]; exact HP18.1); clear HP18; have n0_ := Aside0.mk (Kd.R_after (v := (.slice (some ⟨go11, 0, none⟩) t176.length co11)) (v1 := (.slice (some ⟨go11, 0, none⟩) t176.length co11)) (ok := (fun k_ => some k_ ≠ (v180 : Value).ownBlock)) (by (with_reducible repeat (first | apply Kd.R_alloc | apply Kd.R_drewN | apply Kd.R_drew)); exact Kd.R_mono HO175.out (fun _ hk => ⟨hk.2, hk.1.2⟩)) hg (.inl rfl)); have n1_ := Aside0.mk (hp_); have n2_ := Aside0.mk (Kd.R_after (v := (.slice (some ⟨go11, 0, none⟩) t176.length co11)) (v1 := (.slice (some ⟨go11, 0, none⟩) t176.length co11)) (ok := (fun k_ => some k_ ≠ (.slice Ao14 y173.length co14 : Value).ownBlock)) (by (with_reducible repeat (first | apply Kd.R_alloc | apply Kd.R_drewN | apply Kd.R_drew)); exact Kd.R_mono HO181.out (fun _ hk => ⟨hk.1.2, hk.2⟩)) hg (.inl rfl)); have n3_ := Aside0.mk ((by rw [hw]; exact below_set (HB.out) GB11.out : Below w.heap.size w w19)); clear HO175; clear HO178; clear HO181; clear HB; have HO175 := n0_; have HO178 := n1_; have HO181 := n2_; have HB := n3_; clear n0_ n1_ n2_ n3_; clear hg hw hp_))
            go_loopg [9] k (fun kq v9 w' => ∃ (x8_1 : List Int) (x9_1 : List Int), Aside0 (coins_Both.l0 kq l0 a1 (rd l0 (ji5)) x8_1 x9_1 = some (r1, r2)) ∧ Aside0 (kq ≤ k) ∧ Aside0 (Kd.R (Kd.int .i64) 3 w' w.heap.size (fun k_ => some k_ ≠ (v9 : Value).ownBlock) (.slice (some ⟨go11, 0, none⟩) t176.length co11) x8_1) ∧ Aside0 (Kd.Q (Kd.int .i64) 3 w' w.heap.size (fun k_ => some k_ ≠ ((.slice (some ⟨go11, 0, none⟩) t176.length co11) : Value).ownBlock) v9 x9_1) ∧ Aside0 (Below w.heap.size w w'))
            case atStart => exact ⟨(y182), (y179), H', ⟨Nat.le_refl _⟩, ⟨by (with_reducible repeat (first | apply Kd.R_alloc | apply Kd.R_drewN | apply Kd.R_drew)); exact Kd.R_mono HO178.out (fun _ hk => hk.2)⟩, ⟨Kd.Q_of_R (by (with_reducible repeat (first | apply Kd.R_alloc | apply Kd.R_drewN | apply Kd.R_drew)); exact Kd.R_mono HO181.out (fun _ hk => hk.2))⟩, ⟨by repeat (first | (with_reducible first | exact HB.out | apply below_alloc | apply pw_below_drewN | apply below_drew1) | exact HB.out)⟩⟩
            case round =>
              clear H'
              try clear c1
              try clear p1
              try clear q1
              try clear hx1
              try clear c2
              try clear p2
              try clear c3
              try clear c4
              try clear c4b0
              try clear c4b1
              try clear c6
              try clear c6b0
              try clear p6
              try clear c7
              try clear c7b0
              try clear c9
              try clear c9b0
              try clear c10
              try clear c10b0
              try clear p11
              try clear q11
              try clear hx11
              try clear hf11
              try clear p17
              try clear q17
              try clear hx17
              try clear hx11_0
              try clear hx172_0
              try clear p11
              try clear p172
              try clear q11
              try clear q172
              obtain ⟨x8_1, x9_1, HA, HK1, HO_8, HO_9, HB⟩ := hrel
              have hl8_1 := (Kd.R_reads' HO_8.out).1
              rw [hl8_1] at HO_8
              (try simp only [hl8_1])
              (try simp only [hl8_1] at HO_9)
              cases gk with
              | zero => exact absurd HA.out (by simp [coins_Both.l0])
              | succ k1 =>
                have H := HA.out
                clear HA
                simp only [coins_Both.l0] at H
                by_cases c20 : 0 < (x9_1.length : Int)
                · rw [if_pos c20] at H
                  have c20b0 : decide (0 < (x9_1.length : Int)) = true := decide_eq_true c20
                  have c20b1 : decide (0 < x9_1.length) = true := decide_eq_true (by omega)
                  clear c20
                  by_cases c21 : 1 ≤ (x9_1.length : Int)
                  · rw [if_pos c21] at H
                    have c21b0 := eq_true c21
                    have c21b1 : decide (1 ≤ (x9_1.length : Int)) = true := decide_eq_true c21
                    clear c21
                    obtain ⟨y184, hy184⟩ : ∃ y_ : List Int, y_ = (x9_1.drop (1 : Int).toNat) := ⟨_, rfl⟩
                    replace H : (if (rd x9_1 0) = (wrap64 (a1 + (rd l0 (ji5)))) then (if 0 ≤ (rd x9_1 0) then (if (rd x9_1 0) < (x8_1.length : Int) then (some (rd x8_1 (rd x9_1 0), 0)) else (none)) else (none)) else (coins_Both.l1 k1 l0 a1 (rd l0 (ji5)) x8_1 y184 (rd x9_1 0) l0 (l0.length : Int) 0)) = some (r1, r2) := by first | (rw [hy184]; with_reducible exact H) | (have H2_ := (Option.bind_some _ _).symm.trans H; rw [hy184]; with_reducible exact H2_) | (have H2_ := (Option.bind_some _ _).symm.trans H; with_reducible exact H2_) | with_reducible exact H | (rw [hy184]; exact H) | exact H
                    have Ny184 := Aside0.mk hy184
                    clear hy184
                    by_cases c22 : (rd x9_1 0) = (wrap64 (a1 + (rd l0 (ji5))))
                    · rw [if_pos c22] at H
                      have c22b0 : ((rd x9_1 0) == (wrap64 (a1 + (rd l0 (ji5))))) = true := beq_iff_eq.mpr c22
                      have c22b1 : ((rd x9_1 0) != (wrap64 (a1 + (rd l0 (ji5))))) = false := bne_eq_false_iff_eq.mpr c22
                      clear c22
                      by_cases c23 : 0 ≤ (rd x9_1 0)
                      · rw [if_pos c23] at H
                        have c23b0 : decide (0 ≤ (rd x9_1 0)) = true := decide_eq_true c23
                        clear c23
                        by_cases c24 : (rd x9_1 0) < (x8_1.length : Int)
                        · rw [if_pos c24] at H
                          have c24b0 : decide ((rd x9_1 0) < (x8_1.length : Int)) = true := decide_eq_true c24
                          clear c24
                          simp only [Option.some.injEq, Prod.mk.injEq] at H
                          obtain ⟨rfl, rfl⟩ := H
                          obtain ⟨Ao25, co25, eo25, _⟩ := Kd.Q_slice HO_9.out
                          subst eo25
                          have p183 : 0 ≤ (0 : Int) := (by omega)
                          have q183 : 0 < (x9_1.length : Int) := of_decide_eq_true (by first | (with_reducible assumption) | assumption)
                          obtain ⟨ad183, e183, hx183_0⟩ := Kd.at_int (Kd.Q_reads' HO_9.out).2.2 0 p183 q183
                          cases e183
                          have qi183 : (0 < x9_1.length) = True := eq_true (by omega)
                          (try rw [show ((0 : Int)).toNat = 0 from rfl] at hx183_0)
                          (try rw [Addr.add_zero'] at hx183_0)
                          replace p183 := eq_true p183
                          replace q183 := eq_true q183
                          have q26 : (1 : Int) ≤ ((x9_1.length : Int) : Int) := of_decide_eq_true (by first | (with_reducible assumption) | assumption)
                          obtain ⟨i026, hi026, _, hsz26, _⟩ := info_parts info3
                          have hcut26 := cut_from (P := Try.prog) 22 3 .i64 Try.underlying22 hi026 1 hsz26 (some ad183) x9_1.length co25 1 (by omega) q26
                          have hr26 := Kd.Q_drop (k := (1 : Int).toNat) HO_9.out (by omega)
                          obtain ⟨A26, hA26⟩ : ∃ A1, A1 = (if co25 = (1 : Int).toNat then (some ad183) else ((some ad183) : Option Addr).map (·.add ((1 : Int).toNat * 1))) := ⟨_, rfl⟩
                          obtain ⟨c26, hc26⟩ : ∃ c1, c1 = co25 - (1 : Int).toNat := ⟨_, rfl⟩
                          have hy26 : y184.length = x9_1.length - (1 : Int).toNat := (by rw [Ny184.out, List.length_drop])
                          rw [← Ny184.out] at hr26
                          rw [← hy26, ← hA26, ← hc26] at hcut26
                          replace hr26 : Kd.Q (Kd.int .i64) 3 wr w.heap.size (fun k_ => some k_ ≠ (.slice (some ⟨go11, 0, none⟩) x8_1.length co11 : Value).ownBlock) (.slice A26 y184.length c26) y184 := (by rw [hA26, hc26, hy26]; exact hr26)
                          have HE26 : Aside0 ((Value.slice A26 y184.length c26).ownBlock = (.slice (some ad183) x9_1.length co25 : Value).ownBlock) := ⟨by rw [hA26]; split <;> (cases ((some ad183) : Option Addr) <;> rfl)⟩
                          clear hy26 hi026 hsz26 HO_9 hA26 hc26
                          have HO186 := Aside0.mk hr26
                          clear hr26
                          replace q26 := eq_true q26
                          have n_ := Aside0.mk (Kd.R_mono (ok' := fun k_ => some k_ ≠ (.slice A26 y184.length c26 : Value).ownBlock) HO_8.out (fun k_ hk => (by rw [HE26.out]; exact hk)))
                          clear HO_8
                          have HO_8 := n_
                          clear n_
                          have p187 : 0 ≤ ((rd x9_1 0) : Int) := of_decide_eq_true (by first | (with_reducible assumption) | assumption)
                          have q187 : (rd x9_1 0) < (x8_1.length : Int) := of_decide_eq_true (by first | (with_reducible assumption) | assumption)
                          obtain ⟨ad187, e187, hx187_0⟩ := Kd.at_int (Kd.R_reads' HO_8.out).2.2 (rd x9_1 0) p187 q187
                          obtain rfl : (⟨go11, 0, none⟩ : Addr) = ad187 := (by injection e187)
                          (first | simp only [add_plain] at hx187_0 | simp only [add_at] at hx187_0 | simp only [Addr.add, Nat.zero_add] at hx187_0 | skip)
                          replace p187 := eq_true p187
                          replace q187 := eq_true q187
                          go_wp2
                          go_ret2
                          exact ⟨by first | rfl | (simp [errW_none, errW_some] <;> rfl) | (simp only [← hji5]; first | rfl | (simp [errW_none, errW_some] <;> rfl)) | (simp [*, errW_none, errW_some] <;> rfl), by repeat (first | (with_reducible first | exact HB.out | apply below_alloc | apply pw_below_drewN | apply below_drew1) | exact HB.out)⟩
                        · rw [if_neg c24] at H
                          exact absurd H (by simp)
                      · rw [if_neg c23] at H
                        exact absurd H (by simp)
                    · rw [if_neg c22] at H
                      have c22b0 : ((rd x9_1 0) == (wrap64 (a1 + (rd l0 (ji5))))) = false := beq_eq_false_iff_ne.mpr c22
                      have c22b1 : ((rd x9_1 0) != (wrap64 (a1 + (rd l0 (ji5))))) = true := bne_iff_ne.mpr c22
                      have H' := Aside0.mk H
                      clear H
                      obtain ⟨Ao27, co27, eo27, _⟩ := Kd.Q_slice HO_9.out
                      subst eo27
                      have p183 : 0 ≤ (0 : Int) := (by omega)
                      have q183 : 0 < (x9_1.length : Int) := of_decide_eq_true (by first | (with_reducible assumption) | assumption)
                      obtain ⟨ad183, e183, hx183_0⟩ := Kd.at_int (Kd.Q_reads' HO_9.out).2.2 0 p183 q183
                      cases e183
                      have qi183 : (0 < x9_1.length) = True := eq_true (by omega)
                      (try rw [show ((0 : Int)).toNat = 0 from rfl] at hx183_0)
                      (try rw [Addr.add_zero'] at hx183_0)
                      replace p183 := eq_true p183
                      replace q183 := eq_true q183
                      have q28 : (1 : Int) ≤ ((x9_1.length : Int) : Int) := of_decide_eq_true (by first | (with_reducible assumption) | assumption)
                      obtain ⟨i028, hi028, _, hsz28, _⟩ := info_parts info3
                      have hcut28 := cut_from (P := Try.prog) 22 3 .i64 Try.underlying22 hi028 1 hsz28 (some ad183) x9_1.length co27 1 (by omega) q28
                      have hr28 := Kd.Q_drop (k := (1 : Int).toNat) HO_9.out (by omega)
                      obtain ⟨A28, hA28⟩ : ∃ A1, A1 = (if co27 = (1 : Int).toNat then (some ad183) else ((some ad183) : Option Addr).map (·.add ((1 : Int).toNat * 1))) := ⟨_, rfl⟩
                      obtain ⟨c28, hc28⟩ : ∃ c1, c1 = co27 - (1 : Int).toNat := ⟨_, rfl⟩
                      have hy28 : y184.length = x9_1.length - (1 : Int).toNat := (by rw [Ny184.out, List.length_drop])
                      rw [← Ny184.out] at hr28
                      rw [← hy28, ← hA28, ← hc28] at hcut28
                      replace hr28 : Kd.Q (Kd.int .i64) 3 wr w.heap.size (fun k_ => some k_ ≠ (.slice (some ⟨go11, 0, none⟩) x8_1.length co11 : Value).ownBlock) (.slice A28 y184.length c28) y184 := (by rw [hA28, hc28, hy28]; exact hr28)
                      have HE28 : Aside0 ((Value.slice A28 y184.length c28).ownBlock = (.slice (some ad183) x9_1.length co27 : Value).ownBlock) := ⟨by rw [hA28]; split <;> (cases ((some ad183) : Option Addr) <;> rfl)⟩
                      clear hy28 hi028 hsz28 HO_9 hA28 hc28
                      have HO186 := Aside0.mk hr28
                      clear hr28
                      replace q28 := eq_true q28
                      have n_ := Aside0.mk (Kd.R_mono (ok' := fun k_ => some k_ ≠ (.slice A28 y184.length c28 : Value).ownBlock) HO_8.out (fun k_ hk => (by rw [HE28.out]; exact hk)))
                      clear HO_8
                      have HO_8 := n_
                      clear n_
                      go_wp2
                      go_loopg [9, 55] k1 (fun kq v9 v55 w' => ∃ (x8_2 : List Int) (x9_2 : List Int) (x55_2 : Int), v55 = .int .i64 x55_2 ∧ Aside0 (coins_Both.l1 kq l0 a1 (rd l0 (ji5)) x8_2 x9_2 (rd x9_1 0) l0 (l0.length : Int) x55_2 = some (r1, r2)) ∧ Aside0 (kq ≤ k1) ∧ Aside0 (Kd.R (Kd.int .i64) 3 w' w.heap.size (fun k_ => some k_ ≠ (v9 : Value).ownBlock) (.slice (some ⟨go11, 0, none⟩) x8_1.length co11) x8_2) ∧ Aside0 (Kd.Q (Kd.int .i64) 3 w' w.heap.size (fun k_ => some k_ ≠ ((.slice (some ⟨go11, 0, none⟩) x8_1.length co11) : Value).ownBlock) v9 x9_2) ∧ Aside0 (Below w.heap.size w w'))
                      case atStart => exact ⟨(x8_1), (y184), (0), (by first | rfl | (simp; done) | (simp [*]; done)), H', ⟨Nat.le_refl _⟩, ⟨by (try simp only [hl8_1]); (with_reducible repeat (first | apply Kd.R_alloc | apply Kd.R_drewN | apply Kd.R_drew)); exact HO_8.out⟩, ⟨by (try simp only [hl8_1]); (with_reducible repeat (first | apply Kd.Q_alloc | apply Kd.Q_drewN | apply Kd.Q_drew)); exact HO186.out⟩, ⟨by repeat (first | (with_reducible first | exact HB.out | apply below_alloc | apply pw_below_drewN | apply below_drew1) | exact HB.out)⟩⟩
                      case round =>
                        clear H'
                        try clear c1
                        try clear p1
                        try clear q1
                        try clear hx1
                        try clear qi1
                        try clear c2
                        try clear p2
                        try clear q2
                        try clear c3
                        try clear c4
                        try clear c4b0
                        try clear c4b1
                        try clear c6
                        try clear c6b0
                        try clear p6
                        try clear c7
                        try clear c7b0
                        try clear c9
                        try clear c9b0
                        try clear c10
                        try clear c10b0
                        try clear p11
                        try clear q11
                        try clear hx11
                        try clear hf11
                        try clear p17
                        try clear q17
                        try clear hx17
                        try clear p18
                        try clear q18
                        try clear hx18
                        try clear qi18
                        try clear c20
                        try clear c20b0
                        try clear c20b1
                        try clear c21
                        try clear c21b0
                        try clear c21b1
                        try clear c22
                        try clear c22b0
                        try clear c22b1
                        try clear c23
                        try clear c23b0
                        try clear c24
                        try clear c24b0
                        try clear c26
                        try clear q26
                        try clear c28
                        try clear q28
                        try clear hx11_0
                        try clear hx172_0
                        try clear hx183_0
                        try clear hx187_0
                        try clear p1
                        try clear p11
                        try clear p17
                        try clear p172
                        try clear p183
                        try clear p187
                        try clear p2
                        try clear p6
                        try clear q1
                        try clear q11
                        try clear q17
                        try clear q172
                        try clear q183
                        try clear q187
                        try clear q26
                        try clear q28
                        obtain ⟨x8_2, x9_2, x55_2, rfl, HA, HK2, HO_8, HO_9, HB⟩ := hrel
                        have hl8_2 := (Kd.R_reads' HO_8.out).1
                        rw [hl8_2] at HO_8
                        (try simp only [hl8_2])
                        (try simp only [hl8_2] at HO_9)
                        cases gk with
                        | zero => exact absurd HA.out (by simp [coins_Both.l1])
                        | succ k2 =>
                          have H := HA.out
                          clear HA
                          simp only [coins_Both.l1] at H
                          by_cases c29 : x55_2 < (l0.length : Int)
                          · rw [if_pos c29] at H
                            have c29b0 : decide (x55_2 < (l0.length : Int)) = true := decide_eq_true c29
                            clear c29
                            by_cases c30 : 0 ≤ x55_2
                            · rw [if_pos c30] at H
                              have c30b0 : decide (0 ≤ x55_2) = true := decide_eq_true c30
                              clear c30
                              by_cases c31 : x55_2 < (l0.length : Int)
                              · rw [if_pos c31] at H
                                have c31b0 : decide (x55_2 < (l0.length : Int)) = true := decide_eq_true c31
                                clear c31
                                obtain ⟨y189, hy189⟩ : ∃ y_ : List Int, y_ = (([wrap64 ((rd x9_1 0) - (rd l0 x55_2)), wrap64 ((rd x9_1 0) + (rd l0 x55_2))] : List Int)) := ⟨_, rfl⟩
                                replace H : (coins_Both.l2 k2 l0 a1 (rd l0 (ji5)) x8_2 x9_2 (rd x9_1 0) l0 (l0.length : Int) x55_2 y189 (y189.length : Int) 0) = some (r1, r2) := by first | (rw [hy189]; with_reducible exact H) | (have H2_ := (Option.bind_some _ _).symm.trans H; rw [hy189]; with_reducible exact H2_) | (have H2_ := (Option.bind_some _ _).symm.trans H; with_reducible exact H2_) | with_reducible exact H | (rw [hy189]; exact H) | exact H
                                have Ny189 := Aside0.mk hy189
                                clear hy189
                                have H' := Aside0.mk H
                                clear H
                                have p188 : 0 ≤ (x55_2 : Int) := of_decide_eq_true (by first | (with_reducible assumption) | assumption)
                                have q188 : x55_2 < (l0.length : Int) := of_decide_eq_true (by first | (with_reducible assumption) | assumption)
                                obtain ⟨ad188, e188, hx188_0⟩ := Kd.at_int HR0.out x55_2 p188 q188
                                obtain rfl : ad172 = ad188 := (by injection e188)
                                replace hx188_0 := (HB.out.cell (World.block_lt_of_cell? w _ hx188_0)).trans hx188_0
                                replace p188 := eq_true p188
                                replace q188 := eq_true q188
                                go_wp2_with (first | ((with_reducible refine gate_dst (N := 65) rfl ?_); (try (refine gate_guard (by rfl) ?_; dsimp only)); refine Kd.R_lit (Kd.int .i64) _ 3 ?hg (N := 65) ?hd (xs := ([wrap64 ((rd x9_1 0) - (rd l0 x55_2)), wrap64 ((rd x9_1 0) + (rd l0 x55_2))] : List Int)) (inner := [.int .i64 (wrap64 ((rd x9_1 0) - (rd l0 x55_2))), .int .i64 (wrap64 ((rd x9_1 0) + (rd l0 x55_2)))]) (ok := fun _ => True) (okp := fun _ => True) ?hr ?hp (fun _ hk => hk) trivial (Below.refl _ _) (Nat.le_refl _) (by simp) ?_; (case hd => rfl); (case hg => rfl); (case hr => first | (go_simp; done) | (go_simp; rfl)); (case hp => exact (Reps.one (show Kd.M (Kd.int .i64) _ _ _ (wrap64 ((rd x9_1 0) - (rd l0 x55_2))) [.int .i64 (wrap64 ((rd x9_1 0) - (rd l0 x55_2)))] from rfl) (Reps.one (show Kd.M (Kd.int .i64) _ _ _ (wrap64 ((rd x9_1 0) + (rd l0 x55_2))) [.int .i64 (wrap64 ((rd x9_1 0) + (rd l0 x55_2)))] from rfl) (Reps.none _ _)))); intro v190 w32 ho33 hb hg_ hnew_; clear hg_ hnew_; (first | rw [← Ny189.out] at ho33 | (simp only [Int.reduceToNat] at ho33; rw [← Ny189.out] at ho33)); have n0_ := Aside0.mk (Kd.R_elder' (by (with_reducible repeat (first | apply Kd.R_alloc | apply Kd.R_drewN | apply Kd.R_drew)); exact HO_8.out) (Kd.R_base ho33) hb); have n1_ := Aside0.mk (Kd.Q_elder' (by (with_reducible repeat (first | apply Kd.Q_alloc | apply Kd.Q_drewN | apply Kd.Q_drew)); exact HO_9.out) (Kd.R_base ho33) hb); have n2_ := Aside0.mk (Kd.R_lower (Kd.R_new' (Kd.R_new' ho33 (Kd.R_lt (by (with_reducible repeat (first | apply Kd.R_alloc | apply Kd.R_drewN | apply Kd.R_drew)); exact HO_8.out))) (Kd.Q_lt (by (with_reducible repeat (first | apply Kd.Q_alloc | apply Kd.Q_drewN | apply Kd.Q_drew)); exact HO_9.out))) (below_size (by repeat (first | (with_reducible first | exact HB.out | apply below_alloc | apply pw_below_drewN | apply below_drew1) | exact HB.out)))); have n3_ := Aside0.mk (below_step (by repeat (first | (with_reducible first | exact HB.out | apply below_alloc | apply pw_below_drewN | apply below_drew1) | exact HB.out)) hb); clear HO_8; clear HO_9; clear HB; have HO_8 := n0_; have HO_9 := n1_; have HO191 := n2_; have HB := n3_; clear n0_ n1_ n2_ n3_; clear hb ho33; obtain ⟨Ao34, co34, eo34⟩ := Kd.R_slice HO191.out; subst eo34))
                                go_loopg [9, 67] k2 (fun kq v9 v67 w' => ∃ (x8_3 : List Int) (x9_3 : List Int) (x67_3 : Int), v67 = .int .i64 x67_3 ∧ Aside0 (coins_Both.l2 kq l0 a1 (rd l0 (ji5)) x8_3 x9_3 (rd x9_1 0) l0 (l0.length : Int) x55_2 y189 (y189.length : Int) x67_3 = some (r1, r2)) ∧ Aside0 (kq ≤ k2) ∧ Aside0 (Kd.R (Kd.int .i64) 3 w' w.heap.size (fun k_ => some k_ ≠ (v9 : Value).ownBlock ∧ some k_ ≠ ((.slice Ao34 y189.length co34) : Value).ownBlock) (.slice (some ⟨go11, 0, none⟩) x8_2.length co11) x8_3) ∧ Aside0 (Kd.Q (Kd.int .i64) 3 w' w.heap.size (fun k_ => some k_ ≠ ((.slice (some ⟨go11, 0, none⟩) x8_2.length co11) : Value).ownBlock ∧ some k_ ≠ ((.slice Ao34 y189.length co34) : Value).ownBlock) v9 x9_3) ∧ Aside0 (Kd.R (Kd.int .i64) 3 w' w.heap.size (fun k_ => some k_ ≠ ((.slice (some ⟨go11, 0, none⟩) x8_2.length co11) : Value).ownBlock ∧ some k_ ≠ (v9 : Value).ownBlock) (.slice Ao34 y189.length co34) y189) ∧ Aside0 (Below w.heap.size w w'))
                                case atStart => exact ⟨(x8_2), (x9_2), (0), (by first | rfl | (simp; done) | (simp [*]; done)), H', ⟨Nat.le_refl _⟩, ⟨by (try simp only [hl8_1]); (try simp only [hl8_2]); (with_reducible repeat (first | apply Kd.R_alloc | apply Kd.R_drewN | apply Kd.R_drew)); exact HO_8.out⟩, ⟨by (try simp only [hl8_1]); (try simp only [hl8_2]); (with_reducible repeat (first | apply Kd.Q_alloc | apply Kd.Q_drewN | apply Kd.Q_drew)); exact HO_9.out⟩, ⟨by (try simp only [hl8_1]); (try simp only [hl8_2]); (with_reducible repeat (first | apply Kd.R_alloc | apply Kd.R_drewN | apply Kd.R_drew)); exact Kd.R_mono HO191.out (fun _ hk => ⟨hk.1.2, hk.2⟩)⟩, ⟨by repeat (first | (with_reducible first | exact HB.out | apply below_alloc | apply pw_below_drewN | apply below_drew1) | exact HB.out)⟩⟩
                                case round =>
                                  clear H'
                                  try clear c1
                                  try clear p1
                                  try clear q1
                                  try clear hx1
                                  try clear qi1
                                  try clear c2
                                  try clear p2
                                  try clear q2
                                  try clear c3
                                  try clear c4
                                  try clear c4b0
                                  try clear c4b1
                                  try clear c6
                                  try clear c6b0
                                  try clear p6
                                  try clear c7
                                  try clear c7b0
                                  try clear c9
                                  try clear c9b0
                                  try clear c10
                                  try clear c10b0
                                  try clear p11
                                  try clear q11
                                  try clear hx11
                                  try clear hf11
                                  try clear p17
                                  try clear q17
                                  try clear hx17
                                  try clear p18
                                  try clear q18
                                  try clear hx18
                                  try clear qi18
                                  try clear c20
                                  try clear c20b0
                                  try clear c20b1
                                  try clear c21
                                  try clear c21b0
                                  try clear c21b1
                                  try clear c22
                                  try clear c22b0
                                  try clear c22b1
                                  try clear c23
                                  try clear c23b0
                                  try clear c24
                                  try clear c24b0
                                  try clear c26
                                  try clear q26
                                  try clear c28
                                  try clear q28
                                  try clear c29
                                  try clear c29b0
                                  try clear c30
                                  try clear c30b0
                                  try clear c31
                                  try clear c31b0
                                  try clear hx11_0
                                  try clear hx172_0
                                  try clear hx183_0
                                  try clear hx187_0
                                  try clear hx188_0
                                  try clear p1
                                  try clear p11
                                  try clear p17
                                  try clear p172
                                  try clear p18
                                  try clear p183
                                  try clear p187
                                  try clear p188
                                  try clear p2
                                  try clear p6
                                  try clear q1
                                  try clear q11
                                  try clear q17
                                  try clear q172
                                  try clear q18
                                  try clear q183
                                  try clear q187
                                  try clear q188
                                  try clear q2
                                  try clear q26
                                  try clear q28
                                  obtain ⟨x8_3, x9_3, x67_3, rfl, HA, HK3, HO_8, HO_9, HO_65, HB⟩ := hrel
                                  have hl8_3 := (Kd.R_reads' HO_8.out).1
                                  rw [hl8_3] at HO_8
                                  (try simp only [hl8_3])
                                  (try simp only [hl8_3] at HO_9)
                                  (try simp only [hl8_3] at HO_65)
                                  cases gk with
                                  | zero => exact absurd HA.out (by simp [coins_Both.l2])
                                  | succ k3 =>
                                    have H := HA.out
                                    clear HA
                                    simp only [coins_Both.l2] at H
                                    by_cases c35 : x67_3 < (y189.length : Int)
                                    · rw [if_pos c35] at H
                                      have c35b0 : decide (x67_3 < (y189.length : Int)) = true := decide_eq_true c35
                                      clear c35
                                      by_cases c36 : 0 ≤ x67_3
                                      · rw [if_pos c36] at H
                                        have c36b0 : decide (0 ≤ x67_3) = true := decide_eq_true c36
                                        clear c36
                                        by_cases c37 : x67_3 < (y189.length : Int)
                                        · rw [if_pos c37] at H
                                          have c37b0 : decide (x67_3 < (y189.length : Int)) = true := decide_eq_true c37
                                          clear c37
                                          by_cases c38 : (rd y189 x67_3) ≥ 0
                                          · rw [if_pos c38] at H
                                            have c38b0 : decide (0 ≤ (rd y189 x67_3)) = true := decide_eq_true c38
                                            clear c38
                                            by_cases c39 : (rd y189 x67_3) < (x8_3.length : Int)
                                            · rw [if_pos c39] at H
                                              have c39b0 : decide ((rd y189 x67_3) < (x8_3.length : Int)) = true := decide_eq_true c39
                                              clear c39
                                              by_cases c40 : 0 ≤ (rd y189 x67_3)
                                              · rw [if_pos c40] at H
                                                have c40b0 : decide (0 ≤ (rd y189 x67_3)) = true := decide_eq_true c40
                                                clear c40
                                                by_cases c41 : (rd x8_3 (rd y189 x67_3)) < 0
                                                · rw [if_pos c41] at H
                                                  have c41b0 : decide ((rd x8_3 (rd y189 x67_3)) < 0) = true := decide_eq_true c41
                                                  clear c41
                                                  by_cases c42 : 0 ≤ (rd x9_1 0)
                                                  · rw [if_pos c42] at H
                                                    have c42b0 : decide (0 ≤ (rd x9_1 0)) = true := decide_eq_true c42
                                                    clear c42
                                                    by_cases c43 : (rd x9_1 0) < (x8_3.length : Int)
                                                    · rw [if_pos c43] at H
                                                      have c43b0 : decide ((rd x9_1 0) < (x8_3.length : Int)) = true := decide_eq_true c43
                                                      clear c43
                                                      obtain ⟨y195, hy195⟩ : ∃ y_ : List Int, y_ = (x8_3.set ((rd y189 x67_3) : Int).toNat (wrap64 ((rd x8_3 (rd x9_1 0)) + 1))) := ⟨_, rfl⟩
                                                      replace H : (if x9_3.length < 17592186044416 then (coins_Both.l2 k3 l0 a1 (rd l0 (ji5)) y195 (x9_3 ++ [rd y189 x67_3]) (rd x9_1 0) l0 (l0.length : Int) x55_2 y189 (y189.length : Int) (wrap64 (x67_3 + 1))) else (none)) = some (r1, r2) := by first | (rw [hy195]; with_reducible exact H) | (have H2_ := (Option.bind_some _ _).symm.trans H; rw [hy195]; with_reducible exact H2_) | (have H2_ := (Option.bind_some _ _).symm.trans H; with_reducible exact H2_) | with_reducible exact H | (rw [hy195]; exact H) | exact H
                                                      have Ny195 := Aside0.mk hy195
                                                      clear hy195
                                                      by_cases c45 : x9_3.length < 17592186044416
                                                      · rw [if_pos c45] at H
                                                        have LMc45 := Aside0.mk c45
                                                        clear c45
                                                        obtain ⟨y196, hy196⟩ : ∃ y_ : List Int, y_ = (x9_3 ++ [rd y189 x67_3]) := ⟨_, rfl⟩
                                                        replace H : (coins_Both.l2 k3 l0 a1 (rd l0 (ji5)) y195 y196 (rd x9_1 0) l0 (l0.length : Int) x55_2 y189 (y189.length : Int) (wrap64 (x67_3 + 1))) = some (r1, r2) := by first | (rw [hy196]; with_reducible exact H) | (have H2_ := (Option.bind_some _ _).symm.trans H; rw [hy196]; with_reducible exact H2_) | (have H2_ := (Option.bind_some _ _).symm.trans H; with_reducible exact H2_) | with_reducible exact H | (rw [hy196]; exact H) | exact H
                                                        have Ny196 := Aside0.mk hy196
                                                        clear hy196
                                                        have H' := Aside0.mk H
                                                        clear H
                                                        have p192 : 0 ≤ (x67_3 : Int) := of_decide_eq_true (by first | (with_reducible assumption) | assumption)
                                                        have q192 : x67_3 < (y189.length : Int) := of_decide_eq_true (by first | (with_reducible assumption) | assumption)
                                                        obtain ⟨ad192, e192, hx192_0⟩ := Kd.at_int (Kd.R_reads' HO_65.out).2.2 x67_3 p192 q192
                                                        cases e192
                                                        replace p192 := eq_true p192
                                                        replace q192 := eq_true q192
                                                        have p193 : 0 ≤ ((rd y189 x67_3) : Int) := of_decide_eq_true (by first | (with_reducible assumption) | assumption)
                                                        have q193 : (rd y189 x67_3) < (x8_3.length : Int) := of_decide_eq_true (by first | (with_reducible assumption) | assumption)
                                                        obtain ⟨ad193, e193, hx193_0⟩ := Kd.at_int (Kd.R_reads' HO_8.out).2.2 (rd y189 x67_3) p193 q193
                                                        obtain rfl : (⟨go11, 0, none⟩ : Addr) = ad193 := (by injection e193)
                                                        (first | simp only [add_plain] at hx193_0 | simp only [add_at] at hx193_0 | simp only [Addr.add, Nat.zero_add] at hx193_0 | skip)
                                                        replace p193 := eq_true p193
                                                        replace q193 := eq_true q193
                                                        have p194 : 0 ≤ ((rd x9_1 0) : Int) := of_decide_eq_true (by first | (with_reducible assumption) | assumption)
                                                        have q194 : (rd x9_1 0) < (x8_3.length : Int) := of_decide_eq_true (by first | (with_reducible assumption) | assumption)
                                                        obtain ⟨ad194, e194, hx194_0⟩ := Kd.at_int (Kd.R_reads' HO_8.out).2.2 (rd x9_1 0) p194 q194
                                                        obtain rfl : (⟨go11, 0, none⟩ : Addr) = ad194 := (by injection e194)
                                                        (first | simp only [add_plain] at hx194_0 | simp only [add_at] at hx194_0 | simp only [Addr.add, Nat.zero_add] at hx194_0 | skip)
                                                        replace p194 := eq_true p194
                                                        replace q194 := eq_true q194
                                                        have p44 : 0 ≤ ((rd y189 x67_3) : Int) := of_decide_eq_true (by first | (with_reducible assumption) | assumption)
                                                        have q44 : ((rd y189 x67_3) : Int) < ((x8_3.length : Int) : Int) := of_decide_eq_true (by first | (with_reducible assumption) | assumption)
                                                        obtain ⟨hx44_0, hf44_0⟩ := Kd.R_celln 0 HO_8.out ((rd y189 x67_3) : Int) p44 q44
                                                        replace p44 := eq_true p44
                                                        replace q44 := eq_true q44
                                                        have HP46 := Kd.R_putg HO_8.out ((rd y189 x67_3) : Int) (wrap64 ((rd x8_3 (rd x9_1 0)) + 1))
                                                        go_wp2_with (first | ((with_reducible refine gate_store (t := 3) (p := 93) rfl ?_); refine store_event (t := 3) (p := 93) (v := ?vo_w47) (w1 := (wr.setCell ⟨go11, ((rd y189 x67_3) : Int).toNat, none⟩ (.int .i64 (wrap64 ((rd x8_3 (rd x9_1 0)) + 1))))) ?hg ?ho ?hn ?hr ?_; (case ho => rfl); (case hg => rfl); (case hn => rfl); (case hr => first | (go_simp; done) | (go_simp; rfl)); intro w47 hw; have hg : wr.grownBy w47 (some go11) := (by rw [hw]; exact HP46.2); have hp_ : Kd.R (Kd.int .i64) 3 w47 w.heap.size (fun k_ => some k_ ≠ (u9 : Value).ownBlock ∧ some k_ ≠ (.slice (some ad192) y189.length co34 : Value).ownBlock) (.slice (some ⟨go11, 0, none⟩) x8_3.length co11) y195 := (by rw [hw, Ny195.out]; exact HP46.1); clear HP46; have n0_ := Aside0.mk (hp_); have n1_ := Aside0.mk (Kd.Q_after (v := (.slice (some ⟨go11, 0, none⟩) x8_3.length co11)) (v1 := (.slice (some ⟨go11, 0, none⟩) x8_3.length co11)) (ok := (fun k_ => some k_ ≠ (.slice (some ad192) y189.length co34 : Value).ownBlock)) (by (with_reducible repeat (first | apply Kd.Q_alloc | apply Kd.Q_drewN | apply Kd.Q_drew)); exact Kd.Q_mono HO_9.out (fun _ hk => ⟨hk.2, hk.1⟩)) hg (.inl rfl)); have n2_ := Aside0.mk (Kd.R_after (v := (.slice (some ⟨go11, 0, none⟩) x8_3.length co11)) (v1 := (.slice (some ⟨go11, 0, none⟩) x8_3.length co11)) (ok := (fun k_ => some k_ ≠ (u9 : Value).ownBlock)) (by (with_reducible repeat (first | apply Kd.R_alloc | apply Kd.R_drewN | apply Kd.R_drew)); exact Kd.R_mono HO_65.out (fun _ hk => ⟨hk.2, hk.1⟩)) hg (.inl rfl)); have n3_ := Aside0.mk ((by rw [hw]; exact below_set (HB.out) GB11.out : Below w.heap.size w w47)); clear HO_8; clear HO_9; clear HO_65; clear HB; have HO_8 := n0_; have HO_9 := n1_; have HO_65 := n2_; have HB := n3_; clear n0_ n1_ n2_ n3_; clear hg hw hp_) | ((with_reducible refine gate_builtin (b := .append) (xs := #[.tmp 94, .tmp 96]) rfl ?_); (try (refine gate_guard (by rfl) ?_; dsimp only)); at_builtin; refine Kd.Q_append (Kd.int .i64) (w0 := w) w.heap.size rfl (.tmp 94) (.tmp 96) 22 3 (.int .i64 0) 8 rfl Try.underlying22 info3 rfl (by decide) (by omega) u9 x9_3 (rd y189 x67_3) [.int .i64 (rd y189 x67_3)] (fun k_ => some k_ ≠ (.slice (some ⟨go11, 0, none⟩) x8_3.length co11 : Value).ownBlock ∧ some k_ ≠ (.slice (some ad192) y189.length co34 : Value).ownBlock) (fun _ => False) rfl rfl ?aP (fun _ hk => hk.elim) ?aF ?aO ?aB ?aS ?aL ?_; (case aP => exact rfl); (case aB => exact (by repeat (first | (with_reducible first | exact HB.out | apply below_alloc | apply pw_below_drewN | apply below_drew1) | exact HB.out))); (case aF => exact (fun k_ hk => ⟨Kd.fresh' (Kd.R_lt (by (with_reducible repeat (first | apply Kd.R_alloc | apply Kd.R_drewN | apply Kd.R_drew)); exact HO_8.out)) k_ hk, Kd.fresh' (Kd.R_lt (by (with_reducible repeat (first | apply Kd.R_alloc | apply Kd.R_drewN | apply Kd.R_drew)); exact HO_65.out)) k_ hk⟩)); (case aO => exact (by (with_reducible repeat (first | apply Kd.Q_alloc | apply Kd.Q_drewN | apply Kd.Q_drew)); exact Kd.Q_mono HO_9.out (fun _ hk => ⟨hk.2, hk.1⟩))); (case aS => exact (below_size (by repeat (first | (with_reducible first | exact HB.out | apply below_alloc | apply pw_below_drewN | apply below_drew1) | exact HB.out)))); (case aL => have := LMc45.out; omega); intro v197 w48 ho hb hg hat; rw [← Ny196.out] at ho; have n0_ := Aside0.mk (Kd.R_after (ok := (fun k_ => some k_ ≠ (.slice (some ad192) y189.length co34 : Value).ownBlock)) (by (with_reducible repeat (first | apply Kd.R_alloc | apply Kd.R_drewN | apply Kd.R_drew)); exact Kd.R_mono HO_8.out (fun _ hk => ⟨hk.2, hk.1⟩)) hg hat); have n1_ := Aside0.mk (Kd.R_after (ok := (fun k_ => some k_ ≠ (.slice (some ⟨go11, 0, none⟩) x8_3.length co11 : Value).ownBlock)) (by (with_reducible repeat (first | apply Kd.R_alloc | apply Kd.R_drewN | apply Kd.R_drew)); exact Kd.R_mono HO_65.out (fun _ hk => ⟨hk.2, hk.1⟩)) hg hat); have n2_ := Aside0.mk (hb); have n3_ := Aside0.mk (ho); clear HO_8; clear HO_65; clear HB; clear HO_9; have HO_8 := n0_; have HO_65 := n1_; have HB := n2_; have HO198 := n3_; clear n0_ n1_ n2_ n3_; clear ho hb hg hat))
                                                        (try simp only [← hl8_3])
                                                        go_roundg k3
                                                        case measure => have := HK1.out; have := HK2.out; have := HK3.out; omega
                                                        case rel => exact ⟨(y195), (y196), (wrap64 (x67_3 + 1)), (by first | rfl | (simp; done) | (simp [*]; done)), H', ⟨by have := HK1.out; have := HK2.out; have := HK3.out; omega⟩, ⟨by (try simp only [hl8_1]); (try simp only [hl8_2]); (try simp only [hl8_3]); (with_reducible repeat (first | apply Kd.R_alloc | apply Kd.R_drewN | apply Kd.R_drew)); exact Kd.R_mono HO_8.out (fun _ hk => ⟨hk.2, hk.1⟩)⟩, ⟨by (try simp only [hl8_1]); (try simp only [hl8_2]); (try simp only [hl8_3]); (with_reducible repeat (first | apply Kd.Q_alloc | apply Kd.Q_drewN | apply Kd.Q_drew)); exact HO198.out⟩, ⟨by (try simp only [hl8_1]); (try simp only [hl8_2]); (try simp only [hl8_3]); (with_reducible repeat (first | apply Kd.R_alloc | apply Kd.R_drewN | apply Kd.R_drew)); exact HO_65.out⟩, ⟨by repeat (first | (with_reducible first | exact HB.out | apply below_alloc | apply pw_below_drewN | apply below_drew1) | exact HB.out)⟩⟩
                                                      · rw [if_neg c45] at H
                                                        exact absurd H (by simp)
                                                    · rw [if_neg c43] at H
                                                      exact absurd H (by simp)
                                                  · rw [if_neg c42] at H
                                                    exact absurd H (by simp)
                                                · rw [if_neg c41] at H
                                                  have c41b0 : decide ((rd x8_3 (rd y189 x67_3)) < 0) = false := decide_eq_false c41
                                                  clear c41
                                                  have H' := Aside0.mk H
                                                  clear H
                                                  have p192 : 0 ≤ (x67_3 : Int) := of_decide_eq_true (by first | (with_reducible assumption) | assumption)
                                                  have q192 : x67_3 < (y189.length : Int) := of_decide_eq_true (by first | (with_reducible assumption) | assumption)
                                                  obtain ⟨ad192, e192, hx192_0⟩ := Kd.at_int (Kd.R_reads' HO_65.out).2.2 x67_3 p192 q192
                                                  cases e192
                                                  replace p192 := eq_true p192
                                                  replace q192 := eq_true q192
                                                  have p193 : 0 ≤ ((rd y189 x67_3) : Int) := of_decide_eq_true (by first | (with_reducible assumption) | assumption)
                                                  have q193 : (rd y189 x67_3) < (x8_3.length : Int) := of_decide_eq_true (by first | (with_reducible assumption) | assumption)
                                                  obtain ⟨ad193, e193, hx193_0⟩ := Kd.at_int (Kd.R_reads' HO_8.out).2.2 (rd y189 x67_3) p193 q193
                                                  obtain rfl : (⟨go11, 0, none⟩ : Addr) = ad193 := (by injection e193)
                                                  (first | simp only [add_plain] at hx193_0 | simp only [add_at] at hx193_0 | simp only [Addr.add, Nat.zero_add] at hx193_0 | skip)
                                                  replace p193 := eq_true p193
                                                  replace q193 := eq_true q193
                                                  go_wp2
                                                  (try simp only [← hl8_3])
                                                  go_roundg k3
                                                  case measure => have := HK1.out; have := HK2.out; have := HK3.out; omega
                                                  case rel => exact ⟨(x8_3), (x9_3), (wrap64 (x67_3 + 1)), (by first | rfl | (simp; done) | (simp [*]; done)), H', ⟨by have := HK1.out; have := HK2.out; have := HK3.out; omega⟩, ⟨by (try simp only [hl8_1]); (try simp only [hl8_2]); (try simp only [hl8_3]); (with_reducible repeat (first | apply Kd.R_alloc | apply Kd.R_drewN | apply Kd.R_drew)); exact HO_8.out⟩, ⟨by (try simp only [hl8_1]); (try simp only [hl8_2]); (try simp only [hl8_3]); (with_reducible repeat (first | apply Kd.Q_alloc | apply Kd.Q_drewN | apply Kd.Q_drew)); exact HO_9.out⟩, ⟨by (try simp only [hl8_1]); (try simp only [hl8_2]); (try simp only [hl8_3]); (with_reducible repeat (first | apply Kd.R_alloc | apply Kd.R_drewN | apply Kd.R_drew)); exact HO_65.out⟩, ⟨by repeat (first | (with_reducible first | exact HB.out | apply below_alloc | apply pw_below_drewN | apply below_drew1) | exact HB.out)⟩⟩
                                              · rw [if_neg c40] at H
                                                exact absurd H (by simp)
                                            · rw [if_neg c39] at H
                                              have c39b0 : decide ((rd y189 x67_3) < (x8_3.length : Int)) = false := decide_eq_false c39
                                              clear c39
                                              have H' := Aside0.mk H
                                              clear H
                                              have p192 : 0 ≤ (x67_3 : Int) := of_decide_eq_true (by first | (with_reducible assumption) | assumption)
                                              have q192 : x67_3 < (y189.length : Int) := of_decide_eq_true (by first | (with_reducible assumption) | assumption)
                                              obtain ⟨ad192, e192, hx192_0⟩ := Kd.at_int (Kd.R_reads' HO_65.out).2.2 x67_3 p192 q192
                                              cases e192
                                              replace p192 := eq_true p192
                                              replace q192 := eq_true q192
                                              go_wp2
                                              (try simp only [← hl8_3])
                                              go_roundg k3
                                              case measure => have := HK1.out; have := HK2.out; have := HK3.out; omega
                                              case rel => exact ⟨(x8_3), (x9_3), (wrap64 (x67_3 + 1)), (by first | rfl | (simp; done) | (simp [*]; done)), H', ⟨by have := HK1.out; have := HK2.out; have := HK3.out; omega⟩, ⟨by (try simp only [hl8_1]); (try simp only [hl8_2]); (try simp only [hl8_3]); (with_reducible repeat (first | apply Kd.R_alloc | apply Kd.R_drewN | apply Kd.R_drew)); exact HO_8.out⟩, ⟨by (try simp only [hl8_1]); (try simp only [hl8_2]); (try simp only [hl8_3]); (with_reducible repeat (first | apply Kd.Q_alloc | apply Kd.Q_drewN | apply Kd.Q_drew)); exact HO_9.out⟩, ⟨by (try simp only [hl8_1]); (try simp only [hl8_2]); (try simp only [hl8_3]); (with_reducible repeat (first | apply Kd.R_alloc | apply Kd.R_drewN | apply Kd.R_drew)); exact HO_65.out⟩, ⟨by repeat (first | (with_reducible first | exact HB.out | apply below_alloc | apply pw_below_drewN | apply below_drew1) | exact HB.out)⟩⟩
                                          · rw [if_neg c38] at H
                                            have c38b0 : decide (0 ≤ (rd y189 x67_3)) = false := decide_eq_false c38
                                            clear c38
                                            have H' := Aside0.mk H
                                            clear H
                                            have p192 : 0 ≤ (x67_3 : Int) := of_decide_eq_true (by first | (with_reducible assumption) | assumption)
                                            have q192 : x67_3 < (y189.length : Int) := of_decide_eq_true (by first | (with_reducible assumption) | assumption)
                                            obtain ⟨ad192, e192, hx192_0⟩ := Kd.at_int (Kd.R_reads' HO_65.out).2.2 x67_3 p192 q192
                                            cases e192
                                            replace p192 := eq_true p192
                                            replace q192 := eq_true q192
                                            go_wp2
                                            (try simp only [← hl8_3])
                                            go_roundg k3
                                            case measure => have := HK1.out; have := HK2.out; have := HK3.out; omega
                                            case rel => exact ⟨(x8_3), (x9_3), (wrap64 (x67_3 + 1)), (by first | rfl | (simp; done) | (simp [*]; done)), H', ⟨by have := HK1.out; have := HK2.out; have := HK3.out; omega⟩, ⟨by (try simp only [hl8_1]); (try simp only [hl8_2]); (try simp only [hl8_3]); (with_reducible repeat (first | apply Kd.R_alloc | apply Kd.R_drewN | apply Kd.R_drew)); exact HO_8.out⟩, ⟨by (try simp only [hl8_1]); (try simp only [hl8_2]); (try simp only [hl8_3]); (with_reducible repeat (first | apply Kd.Q_alloc | apply Kd.Q_drewN | apply Kd.Q_drew)); exact HO_9.out⟩, ⟨by (try simp only [hl8_1]); (try simp only [hl8_2]); (try simp only [hl8_3]); (with_reducible repeat (first | apply Kd.R_alloc | apply Kd.R_drewN | apply Kd.R_drew)); exact HO_65.out⟩, ⟨by repeat (first | (with_reducible first | exact HB.out | apply below_alloc | apply pw_below_drewN | apply below_drew1) | exact HB.out)⟩⟩
                                        · rw [if_neg c37] at H
                                          exact absurd H (by simp)
                                      · rw [if_neg c36] at H
                                        exact absurd H (by simp)
                                    · rw [if_neg c35] at H
                                      have c35b0 : decide (x67_3 < (y189.length : Int)) = false := decide_eq_false c35
                                      clear c35
                                      have H' := Aside0.mk H
                                      clear H
                                      go_wp2
                                      (try simp only [← hl8_2, ← hl8_3])
                                      go_roundg k3
                                      case measure => have := HK1.out; have := HK2.out; have := HK3.out; omega
                                      case rel => exact ⟨(x8_3), (x9_3), (wrap64 (x55_2 + 1)), (by first | rfl | (simp; done) | (simp [*]; done)), H', ⟨by have := HK1.out; have := HK2.out; have := HK3.out; omega⟩, ⟨by (try simp only [hl8_1]); (try simp only [hl8_2]); (try simp only [hl8_3]); (with_reducible repeat (first | apply Kd.R_alloc | apply Kd.R_drewN | apply Kd.R_drew)); exact Kd.R_mono HO_8.out (fun _ hk => hk.1)⟩, ⟨by (try simp only [hl8_1]); (try simp only [hl8_2]); (try simp only [hl8_3]); (with_reducible repeat (first | apply Kd.Q_alloc | apply Kd.Q_drewN | apply Kd.Q_drew)); exact Kd.Q_mono HO_9.out (fun _ hk => hk.1)⟩, ⟨by repeat (first | (with_reducible first | exact HB.out | apply below_alloc | apply pw_below_drewN | apply below_drew1) | exact HB.out)⟩⟩
                              · rw [if_neg c31] at H
                                exact absurd H (by simp)
                            · rw [if_neg c30] at H
                              exact absurd H (by simp)
                          · rw [if_neg c29] at H
                            have c29b0 : decide (x55_2 < (l0.length : Int)) = false := decide_eq_false c29
                            clear c29
                            have H' := Aside0.mk H
                            clear H
                            go_wp2
                            (try simp only [← hl8_1, ← hl8_2])
                            go_roundg k2
                            case measure => have := HK1.out; have := HK2.out; omega
                            case rel => exact ⟨(x8_2), (x9_2), H', ⟨by have := HK1.out; have := HK2.out; omega⟩, ⟨by (try simp only [hl8_1]); (try simp only [hl8_2]); (with_reducible repeat (first | apply Kd.R_alloc | apply Kd.R_drewN | apply Kd.R_drew)); exact HO_8.out⟩, ⟨by (try simp only [hl8_1]); (try simp only [hl8_2]); (with_reducible repeat (first | apply Kd.Q_alloc | apply Kd.Q_drewN | apply Kd.Q_drew)); exact HO_9.out⟩, ⟨by repeat (first | (with_reducible first | exact HB.out | apply below_alloc | apply pw_below_drewN | apply below_drew1) | exact HB.out)⟩⟩
                  · rw [if_neg c21] at H
                    exact absurd H (by simp)
                · rw [if_neg c20] at H
                  exact absurd H (by simp)
          · rw [if_neg c10] at H
            exact absurd H (by simp)
        · rw [if_neg c9] at H
          exact absurd H (by simp)
      · rw [if_neg c7] at H
        exact absurd H (by simp)
    · rw [if_neg c6] at H
      exact absurd H (by simp)
  · rw [if_neg c4] at H
    have c4b0 : (t171 == 0) = false := beq_eq_false_iff_ne.mpr c4
    have c4b1 : (t171 != 0) = true := bne_iff_ne.mpr c4
    simp only [Option.some.injEq, Prod.mk.injEq] at H
    obtain ⟨rfl, rfl⟩ := H
    go_enter Try.func28, Try.ntmps28
    go_wp2_with (first | ((with_reducible refine gate_callee (f := 30) rfl ?_); refine goesL_ (some 17) rfl rfl Try.func30 (by kernel_rfl) rfl #[.slice A0 l0.length c0, .int .i64 a1, .int .i64 100000] rfl (by (try simp only [List.map_toArray, List.map_cons, List.map_nil]); first | done | rfl | (simp only [List.length_drop, List.length_take]; rfl)) ?_; (with_reducible refine (coins_looked.calls k _ _ l0 a1 100000 t171 _ ?side1 ?side2 A3.out).mono ?_); (case side1 => repeat (first | exact HR0.out | (with_reducible refine Kd.C_alloc ?_ _) | (with_reducible refine Kd.C_drewN ?_ _) | (with_reducible refine Kd.C_drew ?_))); (case side2 => exact HC0.out); rintro e w' ⟨rfl, ⟨nd, rfl⟩⟩; refine ⟨_, rfl, ?_⟩))
    go_ret2
    exact ⟨by first | rfl | (simp [errW_none, errW_some] <;> rfl) | (simp [*, errW_none, errW_some] <;> rfl), by repeat (first | (with_reducible first | exact HB.out | apply below_alloc | apply pw_below_drewN | apply below_drew1) | exact HB.out)⟩

end Go.Proofs.Ytgbalmjnjpfopaa.PC
