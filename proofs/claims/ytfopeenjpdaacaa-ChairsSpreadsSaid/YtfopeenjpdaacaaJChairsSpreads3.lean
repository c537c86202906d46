/- Parts of the proof of LawChairsSpreads, one behind the other: PCg2 HQueue MTree HTree PCf38 PCg3 PCg1 PCf5 LSit MSpz PureChairsSpreads. -/
import Derived.Outline
import Derived.Lib.Hide
import Derived.Test.YtfopeenjpdaacaaJChairsSpreads2
section
set_option linter.unusedVariables false
set_option linter.unusedSimpArgs false
namespace Go.Proofs.Ytfopeenjpdaacaa.PC
open Go.RowKit Go.Proofs.YtfopeenjpdaacaaW.PrintWords Go.Proofs.YtfopeenjpdaacaaW.PrintLast Go.Proofs.YtfopeenjpdaacaaW.PrintMore
attribute [local go_sem] max2_int min2_int max_two min_two max_three min_three max_four min_four   -- for this text's walks alone
set_option linter.unusedVariables false
set_option linter.unusedSimpArgs false
/-! ### chairs_wished: function 51 -/
/-- the errors of a row and wishes -/
def chairs_wished.f (a0 : Int) (l1 : List Int) : Option Int :=
 if a0 < 1 ∨ a0 > 30 then some 2 else if (l1.length : Int) > a0 then some 3 else if l1.all (fun w => decide (0 ≤ w ∧ w < a0)) = true then some 0 else some 2
section
theorem wished_lit (x m : Int) (b : Bool) (hb : decide (x < 0 ∨ m ≤ x) = b) (B : Nat) (w : World) (hcell : w.cell? ⟨B, 0, none⟩ = some (.int .i64 m)) :
  Calls Try.prog 67 #[.int .i64 x, .pointer (some ⟨B, 0, none⟩)] w fun e w' => e = .returned (.bool b) ∧ Drawn0 w w' := by
 subst hb
 have hc := hcell
 clear hcell
 by_cases h1 : x < 0
 ·have d1 : decide (x < 0) = true := decide_eq_true h1
  have d2 : decide (x < 0 ∨ m ≤ x) = true := decide_eq_true (Or.inl h1)
  rw [d2]
  clear d2
  go_enter Try.func67, Try.ntmps67
  go_wp2
  go_ret
  exact ⟨rfl, Drawn0.refl _⟩
 ·have d1 : decide (x < 0) = false := decide_eq_false h1
  obtain ⟨b, hb⟩ : ∃ b, decide (m ≤ x) = b := ⟨_, rfl⟩
  have d2 : decide (x < 0 ∨ m ≤ x) = b := by rw [← hb]; simp [h1]
  rw [d2]
  go_enter Try.func67, Try.ntmps67
  go_wp2
  go_ret
  exact ⟨rfl, Drawn0.refl _⟩
set_option maxHeartbeats 400000 in
theorem wished_IndexFunc (A0 : Option Addr) (c0 : Nat) (l0 : List Int) (m : Int) (B : Nat) (w : World) (hr0 : Kd.C (Kd.int .i64) w A0 l0.length l0) (hcell : w.cell? ⟨B, 0, none⟩ = some (.int .i64 m)) (hl : l0.length ≤ 1000000) (b0 : Bool) (hb0 : l0.any (fun x => decide (x < 0 ∨ m ≤ x)) = b0) :
  Calls Try.prog 77 #[.slice A0 l0.length c0, .func (.func 67) #[] #[.pointer (some ⟨B, 0, none⟩)]] w fun e w' => (∃ r : Int, e = .returned (.int .i64 r) ∧ decide (0 ≤ r) = b0) ∧ Drawn0 w w' := by
 have HB0 := Lib.hid hb0
 clear hb0
 obtain ⟨n, hn⟩ : ∃ n, l0.length = n := ⟨_, rfl⟩
 rw [hn] at hr0 hl ⊢
 have HR := Lib.hid hr0
 clear hr0
 have HN := Lib.hid hn
 clear hn
 have HC := Lib.hid hcell
 clear hcell
 go_enter Try.func77, Try.ntmps77
 go_wp2
 go_loopw [8] (fun i wr => ∃ q nd : Nat, q ≤ n ∧ i = .int .i64 (q : Int) ∧ wr = w.drewN nd ∧ Hid ((l0.take q).any (fun x => decide (x < 0 ∨ m ≤ x)) = false)) (fun i _ => n - (intOf i).toNat)
 case atStart => exact ⟨0, 0, Nat.zero_le _, rfl, rfl, Lib.hid rfl⟩
 case round =>
  obtain ⟨q, nd, hq, rfl, rfl, hno⟩ := hrel
  by_cases hlt : q < n
  ·have d1 : decide ((q : Int) < (n : Int)) = true := decide_eq_true (by omega)
   obtain ⟨ad, e, hx⟩ := Kd.at_int HR.out (q : Int) (by omega) (by omega)
   subst e
   rw [Int.toNat_natCast] at hx
   obtain ⟨x, hxv⟩ : ∃ x, rd l0 (q : Int) = x := ⟨_, rfl⟩
   rw [hxv] at hx
   have HX := Lib.hid hxv
   clear hxv
   have hl0 : q < l0.length := by have := HN.out; omega
   have ht : (l0.take (q + 1)).any (fun x => decide (x < 0 ∨ m ≤ x)) = decide (x < 0 ∨ m ≤ x) := by
    have e1 : l0.take (q + 1) = l0.take q ++ [rd l0 (q : Int)] := by
     rw [List.take_succ_eq_append_getElem hl0]; simp [rd, List.getD_eq_getElem?_getD, hl0]
    rw [e1, List.any_append, hno.out, HX.out]; simp
   obtain ⟨b, hb⟩ : ∃ b, decide (x < 0 ∨ m ≤ x) = b := ⟨_, rfl⟩
   rw [hb] at ht
   have HT := Lib.hid ht
   have HB := Lib.hid hb
   clear ht hb
   cases b with
   | true =>
    go_wp2_with (go_at_call 67; refine (wished_lit x m _ HB.out B _ (show (w.drewN nd).cell? _ = _ from HC.out)).mono ?_; rintro e w' ⟨rfl, ⟨nd2, rfl⟩⟩)
    go_ret
    refine ⟨⟨_, rfl, ?_⟩, ⟨⟨nd + nd2, rfl⟩⟩⟩
    have h3 := HT.out
    rw [← HB0.out, decide_eq_true (by omega)]
    symm
    rw [List.any_eq_true] at h3 ⊢
    obtain ⟨y, hy, h4⟩ := h3
    exact ⟨y, List.mem_of_mem_take hy, h4⟩
   | false =>
    go_wp2_with (go_at_call 67; refine (wished_lit x m _ HB.out B _ (show (w.drewN nd).cell? _ = _ from HC.out)).mono ?_; rintro e w' ⟨rfl, ⟨nd2, rfl⟩⟩)
    go_round
    case rel => exact ⟨q + 1, nd + nd2, by omega, by go_num, by simp, HT⟩
    case measure => simp [intOf]; omega
  ·obtain rfl : q = n := by omega
   have d1 : decide ((q : Int) < (q : Int)) = false := decide_eq_false (by omega)
   go_wp2
   go_ret
   have h3 := hno.out
   rw [List.take_of_length_le (by have := HN.out; omega)] at h3
   exact ⟨⟨-1, rfl, by rw [← HB0.out, h3]; rfl⟩, Drawn0.step (Drawn0.refl _) nd⟩
set_option maxHeartbeats 400000 in
theorem wished_ContainsFunc (A0 : Option Addr) (c0 : Nat) (l0 : List Int) (m : Int) (B : Nat) (w : World) (hr0 : Kd.C (Kd.int .i64) w A0 l0.length l0) (hcell : w.cell? ⟨B, 0, none⟩ = some (.int .i64 m)) (hl : l0.length ≤ 1000000) (b : Bool) (hb : l0.any (fun x => decide (x < 0 ∨ m ≤ x)) = b) :
  Calls Try.prog 66 #[.slice A0 l0.length c0, .func (.func 67) #[] #[.pointer (some ⟨B, 0, none⟩)]] w fun e w' => e = .returned (.bool b) ∧ Drawn0 w w' := by
 have HR := Lib.hid hr0
 have HC := Lib.hid hcell
 have HB := Lib.hid hb
 clear hr0 hcell hb
 go_enter Try.func66, Try.ntmps66
 go_wp2_with (go_at_call 77; refine (wished_IndexFunc A0 c0 l0 m B _ HR.out HC.out hl b HB.out).mono ?_; rintro e w' ⟨⟨r, rfl, hr⟩, ⟨nd, rfl⟩⟩)
 go_ret
 exact ⟨rfl, ⟨⟨_, rfl⟩⟩⟩
set_option maxHeartbeats 400000 in
theorem wished_walk (a0 : Int) (A1 : Option Addr) (c1 : Nat) (l1 : List Int) (w : World) (hr1 : Kd.C (Kd.int .i64) w A1 l1.length l1) (r : Int)
  (hr : (a0 < 1 ∧ r = 2) ∨ (¬ a0 < 1 ∧ a0 > 30 ∧ r = 2) ∨ (¬ a0 < 1 ∧ ¬ a0 > 30 ∧ (l1.length : Int) > a0 ∧ r = 3) ∨ (¬ a0 < 1 ∧ ¬ a0 > 30 ∧ ¬ (l1.length : Int) > a0 ∧ ∃ b, l1.any (fun x => decide (x < 0 ∨ a0 ≤ x)) = b ∧ r = if b = true then 2 else 0)) :
  Calls Try.prog 51 #[.int .i64 a0, .slice A1 l1.length c1] w fun e w' => e = .returned (.int .i64 r) ∧ Below w.heap.size w w' := by
 have HR : Hid (Kd.C (Kd.int .i64) (w.alloc (.cells #[.int .i64 a0] 3)) A1 l1.length l1) := Lib.hid (Kd.C_alloc hr1 _)
 clear hr1
 rcases hr with ⟨g1, rfl⟩ | ⟨g1, g2, rfl⟩ | ⟨g1, g2, g3, rfl⟩ | ⟨g1, g2, g3, b, hb, rfl⟩
 ·have d1 : decide (a0 < 1) = true := decide_eq_true g1
  go_enter Try.func51, Try.ntmps51
  go_wp2
  go_ret
  exact ⟨rfl, (Below.refl _ w).alloc (Nat.le_refl _) _⟩
 ·have d1 : decide (a0 < 1) = false := decide_eq_false g1
  have d2 : decide (30 < a0) = true := decide_eq_true g2
  go_enter Try.func51, Try.ntmps51
  go_wp2
  go_ret
  exact ⟨rfl, (Below.refl _ w).alloc (Nat.le_refl _) _⟩
 ·have d1 : decide (a0 < 1) = false := decide_eq_false g1
  have d2 : decide (30 < a0) = false := decide_eq_false g2
  have d3 : decide (a0 < (l1.length : Int)) = true := decide_eq_true g3
  go_enter Try.func51, Try.ntmps51
  go_wp2
  go_ret
  exact ⟨rfl, (Below.refl _ w).alloc (Nat.le_refl _) _⟩
 ·have d1 : decide (a0 < 1) = false := decide_eq_false g1
  have d2 : decide (30 < a0) = false := decide_eq_false g2
  have d3 : decide (a0 < (l1.length : Int)) = false := decide_eq_false g3
  have HB := Lib.hid hb
  clear hb
  have hl : l1.length ≤ 1000000 := by omega
  have hcell : ∀ o : Obj, o = .cells #[.int .i64 a0] 3 → (w.alloc o).cell? ⟨w.heap.size, 0, none⟩ = some (.int .i64 a0) := by
   rintro o rfl
   rw [World.cell?_alloc_at _ _ _ _ rfl]; rfl
  have HC := Lib.hid hcell
  clear hcell
  cases b with
  | true =>
   go_enter Try.func51, Try.ntmps51
   go_wp2_with (go_at_call 66; refine (wished_ContainsFunc A1 c1 l1 a0 w.heap.size _ HR.out (HC.out _ rfl) hl true HB.out).mono ?_; rintro e w' ⟨rfl, ⟨nd, rfl⟩⟩)
   go_ret
   exact ⟨rfl, pw_below_drewN ((Below.refl _ w).alloc (Nat.le_refl _) _) _⟩
  | false =>
   go_enter Try.func51, Try.ntmps51
   go_wp2_with (go_at_call 66; refine (wished_ContainsFunc A1 c1 l1 a0 w.heap.size _ HR.out (HC.out _ rfl) hl false HB.out).mono ?_; rintro e w' ⟨rfl, ⟨nd, rfl⟩⟩)
   go_ret
   exact ⟨rfl, pw_below_drewN ((Below.refl _ w).alloc (Nat.le_refl _) _) _⟩
theorem chairs_wished.calls (a0 : Int) (A1 : Option Addr) (c1 : Nat) (l1 : List Int) (r : Int) (w : World) (hr1 : Kd.C (Kd.int .i64) w A1 l1.length l1) (hc1 : l1.length ≤ c1) (h : chairs_wished.f a0 l1 = some r) :
  Calls Try.prog 51 #[.int .i64 a0, .slice A1 l1.length c1] w fun e w' => e = .returned (.int .i64 r) ∧ Below w.heap.size w w' := by
 unfold chairs_wished.f at h
 refine wished_walk a0 A1 c1 l1 w hr1 r ?_
 by_cases g1 : a0 < 1
 ·rw [if_pos (Or.inl g1)] at h
  exact .inl ⟨g1, (Option.some.inj h).symm⟩
 by_cases g2 : a0 > 30
 ·rw [if_pos (Or.inr g2)] at h
  exact .inr (.inl ⟨g1, g2, (Option.some.inj h).symm⟩)
 rw [if_neg (by omega)] at h
 by_cases g3 : (l1.length : Int) > a0
 ·rw [if_pos g3] at h
  exact .inr (.inr (.inl ⟨g1, g2, g3, (Option.some.inj h).symm⟩))
 rw [if_neg g3] at h
 refine .inr (.inr (.inr ⟨g1, g2, g3, _, rfl, ?_⟩))
 by_cases g4 : l1.all (fun w => decide (0 ≤ w ∧ w < a0)) = true
 ·rw [if_pos g4] at h
  rw [if_neg ?_]
  ·exact (Option.some.inj h).symm
  ·intro h5
   obtain ⟨x, hx, h6⟩ := List.any_eq_true.1 h5
   have h7 := List.all_eq_true.1 g4 x hx
   simp at h6 h7
   omega
 ·rw [if_neg g4] at h
  rw [if_pos ?_]
  ·exact (Option.some.inj h).symm
  ·cases h5 : l1.any (fun x => decide (x < 0 ∨ a0 ≤ x)) with
   | true => rfl
   | false =>
    exfalso
    refine g4 (List.all_eq_true.2 fun x hx => ?_)
    have h6 := List.any_eq_false.1 h5 x hx
    simp at h6 ⊢
    omega
end
/-! ### chairs_sit: function 54 -/
mutual
def chairs_sit.l0 : Nat → Int → List Bool → List Int → List Int → Int → Int → Option (List Int × Bool)
 | 0, _, _, _, _, _, _ => none
 | k + 1, x0, x6, x7, x12, x13, x14 => if x14 < x13 then (if 0 ≤ x14 then (if x14 < (x12.length : Int) then (chairs_sit.l1 k x0 x6 x7 (rd x12 x14) x12 x13 x14) else (none)) else (none)) else (some (x7, true))
def chairs_sit.l1 : Nat → Int → List Bool → List Int → Int → List Int → Int → Int → Option (List Int × Bool)
 | 0, _, _, _, _, _, _, _ => none
 | k + 1, x0, x6, x7, x9, x12, x13, x14 => if x9 < x0 then (if 0 ≤ x9 then (if x9 < (x6.length : Int) then (if rdOf false x6 x9 = true then (chairs_sit.l1 k x0 x6 x7 (wrap64 (x9 + 1)) x12 x13 x14) else (if x9 = x0 then (some (([] : List Int), false)) else (if x7.length < 17592186044416 then (chairs_sit.l0 k x0 (x6.set (x9 : Int).toNat true) (x7 ++ [x9]) x12 x13 (wrap64 (x14 + 1))) else (none)))) else (none)) else (none)) else (if x9 = x0 then (some (([] : List Int), false)) else (if 0 ≤ x9 then (if x9 < (x6.length : Int) then (if x7.length < 17592186044416 then (chairs_sit.l0 k x0 (x6.set (x9 : Int).toNat true) (x7 ++ [x9]) x12 x13 (wrap64 (x14 + 1))) else (none)) else (none)) else (none)))
end
def chairs_sit.f (k : Nat) (a0 : Int) (l1 : List Int) : Option (List Int × Bool) := if 0 ≤ a0 then (if (a0 : Int).toNat ≤ 281474976710656 then (chairs_sit.l0 k a0 (List.replicate (a0 : Int).toNat false) ([] : List Int) l1 (l1.length : Int) 0) else (none)) else (none)
theorem chairs_sit.mono_l : ∀ k, (∀ y0 y1 y2 y3 y4 y5, LeO (chairs_sit.l0 k y0 y1 y2 y3 y4 y5) (chairs_sit.l0 (k + 1) y0 y1 y2 y3 y4 y5)) ∧ (∀ y0 y1 y2 y3 y4 y5 y6, LeO (chairs_sit.l1 k y0 y1 y2 y3 y4 y5 y6) (chairs_sit.l1 (k + 1) y0 y1 y2 y3 y4 y5 y6))
 | 0 => ⟨fun _ _ _ _ _ _ r h => by simp [chairs_sit.l0] at h, fun _ _ _ _ _ _ _ r h => by simp [chairs_sit.l1] at h⟩
 | k + 1 => by
  obtain ⟨ih0, ih1⟩ := chairs_sit.mono_l k
  refine ⟨?_, ?_⟩
  ·intro y0 y1 y2 y3 y4 y5
   unfold chairs_sit.l0
   repeat' first
   | (with_reducible exact ih0 _ _ _ _ _ _)
   | (with_reducible exact ih1 _ _ _ _ _ _ _)
   | (with_reducible exact LeO.refl _)
   | (with_reducible exact LeO.none _)
   | (with_reducible refine LeO.ite ?_ ?_)
   | (with_reducible refine LeO.bind ?_ (fun _ => ?_))
   | exact ih0 _ _ _ _ _ _
   | exact ih1 _ _ _ _ _ _ _
   | exact LeO.none _
   | refine LeO.ite ?_ ?_
   | refine LeO.bind ?_ (fun _ => ?_)
  ·intro y0 y1 y2 y3 y4 y5 y6
   unfold chairs_sit.l1
   repeat' first
   | (with_reducible exact ih0 _ _ _ _ _ _)
   | (with_reducible exact ih1 _ _ _ _ _ _ _)
   | (with_reducible exact LeO.refl _)
   | (with_reducible exact LeO.none _)
   | (with_reducible refine LeO.ite ?_ ?_)
   | (with_reducible refine LeO.bind ?_ (fun _ => ?_))
   | exact ih0 _ _ _ _ _ _
   | exact ih1 _ _ _ _ _ _ _
   | exact LeO.none _
   | refine LeO.ite ?_ ?_
   | refine LeO.bind ?_ (fun _ => ?_)
theorem chairs_sit.mono : ∀ a0 a1 k, LeO (chairs_sit.f k a0 a1) (chairs_sit.f (k + 1) a0 a1) := by
 intro a0 a1 k
 obtain ⟨ih0, ih1⟩ := chairs_sit.mono_l k
 unfold chairs_sit.f
 repeat' first
   | (with_reducible exact ih0 _ _ _ _ _ _)
   | (with_reducible exact ih1 _ _ _ _ _ _ _)
   | (with_reducible exact LeO.refl _)
   | (with_reducible exact LeO.none _)
   | (with_reducible refine LeO.ite ?_ ?_)
   | (with_reducible refine LeO.bind ?_ (fun _ => ?_))
   | exact ih0 _ _ _ _ _ _
   | exact ih1 _ _ _ _ _ _ _
   | exact LeO.none _
   | refine LeO.ite ?_ ?_
   | refine LeO.bind ?_ (fun _ => ?_)
set_option maxHeartbeats 8000000 in
set_option maxRecDepth 100000 in
theorem chairs_sit.calls (k : Nat) (a0 : Int) (A1 : Option Addr) (c1 : Nat) (l1 : List Int) (r1 : List Int) (r2 : Bool) (w : World) (hr1 : Kd.C (Kd.int .i64) w A1 l1.length l1) (hc1 : l1.length ≤ c1) (h : chairs_sit.f k a0 l1 = some (r1, r2)) :
  Calls Try.prog 54 #[.int .i64 a0, .slice A1 l1.length c1] w fun e w' => ∃ v0_ : Value, e = .returned (.tuple #[v0_, .bool r2]) ∧ Kd.R (Kd.int .i64) 3 w' w.heap.size (fun _ => True) v0_ r1 ∧ Below w.heap.size w w' := by
 have HR1 := Aside0.mk hr1
 have HC1 := Aside0.mk hc1
 clear hr1 hc1
 have HB := Aside0.mk (Below.refl w.heap.size w)
 have H : (if 0 ≤ a0 then (if (a0 : Int).toNat ≤ 281474976710656 then (chairs_sit.l0 k a0 (List.replicate (a0 : Int).toNat false) ([] : List Int) l1 (l1.length : Int) 0) else (none)) else (none)) = some (r1, r2) := h
 clear h
 by_cases c3 : 0 ≤ a0
 ·rw [if_pos c3] at H
  have c3b0 := eq_true c3
  have c3b1 : decide (0 ≤ a0) = true := decide_eq_true c3
  clear c3
  by_cases c4 : (a0 : Int).toNat ≤ 281474976710656
  ·rw [if_pos c4] at H
   have c4b0 := eq_true c4
   have c4b1 : decide ((a0 : Int).toNat ≤ 281474976710656) = true := decide_eq_true c4
   clear c4
   obtain ⟨y122, hy122⟩ : ∃ y_ : List Bool, y_ = (List.replicate (a0 : Int).toNat false) := ⟨_, rfl⟩
   replace H : (chairs_sit.l0 k a0 y122 ([] : List Int) l1 (l1.length : Int) 0) = some (r1, r2) := by first | (rw [hy122]; with_reducible exact H) | (have H2_ := (Option.bind_some _ _).symm.trans H; rw [hy122]; with_reducible exact H2_) | (have H2_ := (Option.bind_some _ _).symm.trans H; with_reducible exact H2_) | with_reducible exact H | (rw [hy122]; exact H) | exact H
   have Ny122 := Aside0.mk hy122
   clear hy122
   have H' := Aside0.mk H
   clear H
   go_enter Try.func54, Try.ntmps54
   go_wp2_with (first | ((with_reducible refine gate_dst (N := 11) rfl ?_); refine Kd.R_make Kd.bool _ 4 rfl (N := 11) rfl 58 _ _ rfl a0 rfl rfl Try.underlying58 (.bool false) 1 info4 rfl (by decide) (by omega) false (ok := fun _ => True) (okp := fun _ => True) rfl (fun _ hk => hk) trivial (of_decide_eq_true (by first | (with_reducible assumption) | assumption)) (Nat.le_trans (Nat.mul_le_mul_right _ (of_decide_eq_true (by first | (with_reducible assumption) | assumption) : a0.toNat ≤ 281474976710656)) (by omega)) (Below.refl _ _) (Nat.le_refl _) ?_; intro v123 w5 ho6 hb hg_ hnew_; clear hg_ hnew_; (first | rw [← Ny122.out] at ho6 | (simp only [Int.reduceToNat] at ho6; rw [← Ny122.out] at ho6)); have n0_ := Aside0.mk (Kd.R_lower ho6 (below_size (by repeat (first | (with_reducible first | exact HB.out | apply below_alloc | apply pw_below_drewN | apply below_drew1) | exact HB.out)))); have n1_ := Aside0.mk (below_step (by repeat (first | (with_reducible first | exact HB.out | apply below_alloc | apply pw_below_drewN | apply below_drew1) | exact HB.out)) hb); clear HB; have HO124 := n0_; have HB := n1_; clear n0_ n1_; clear hb ho6))
   go_loopg [7, 14] k (fun kq v7 v14 w' => ∃ (x6_1 : List Bool) (x7_1 : List Int) (x14_1 : Int), v14 = .int .i64 x14_1 ∧ Aside0 (chairs_sit.l0 kq a0 x6_1 x7_1 l1 (l1.length : Int) x14_1 = some (r1, r2)) ∧ Aside0 (kq ≤ k) ∧ Aside0 (Kd.R Kd.bool 4 w' w.heap.size (fun _ => True) v123 x6_1) ∧ Aside0 (Kd.R (Kd.int .i64) 3 w' w.heap.size (fun _ => True) v7 x7_1) ∧ Aside0 (Below w.heap.size w w'))
   case atStart => exact ⟨(y122), (([] : List Int)), (0), (by first | rfl | (simp; done) | (simp [*]; done)), H', ⟨Nat.le_refl _⟩, ⟨by (with_reducible repeat (first | apply Kd.R_alloc | apply Kd.R_drewN | apply Kd.R_drew)); exact HO124.out⟩, ⟨by first | exact Kd.R_nil _ _ _ _ _ | exact Kd.N_nil _ _ _ _ _ | exact Kd.V_nil _ _ _ _ _ | exact Kd.Q_nil _ _ _ _ _ | exact Kd.S_nil _ _ _ _ _⟩, ⟨by repeat (first | (with_reducible first | exact HB.out | apply below_alloc | apply pw_below_drewN | apply below_drew1) | exact HB.out)⟩⟩
   case round =>
    clear H'
    try clear c1
    try clear p2
    try clear c3
    try clear c3b0
    try clear c3b1
    try clear c4
    try clear c4b0
    try clear c4b1
    try clear c5
    obtain ⟨x6_1, x7_1, x14_1, rfl, HA, HK1, HO_6, HO_7, HB⟩ := hrel
    cases gk with
    | zero => exact absurd HA.out (by simp [chairs_sit.l0])
    | succ k1 =>
     have H := HA.out
     clear HA
     simp only [chairs_sit.l0] at H
     by_cases c7 : x14_1 < (l1.length : Int)
     ·rw [if_pos c7] at H
      have c7b0 : decide (x14_1 < (l1.length : Int)) = true := decide_eq_true c7
      clear c7
      by_cases c8 : 0 ≤ x14_1
      ·rw [if_pos c8] at H
       have c8b0 : decide (0 ≤ x14_1) = true := decide_eq_true c8
       clear c8
       by_cases c9 : x14_1 < (l1.length : Int)
       ·rw [if_pos c9] at H
        have c9b0 : decide (x14_1 < (l1.length : Int)) = true := decide_eq_true c9
        clear c9
        have H' := Aside0.mk H
        clear H
        have p125 : 0 ≤ (x14_1 : Int) := of_decide_eq_true (by first | (with_reducible assumption) | assumption)
        have q125 : x14_1 < (l1.length : Int) := of_decide_eq_true (by first | (with_reducible assumption) | assumption)
        obtain ⟨ad125, e125, hx125_0⟩ := Kd.at_int HR1.out x14_1 p125 q125
        cases e125
        replace hx125_0 := (HB.out.cell (World.block_lt_of_cell? w _ hx125_0)).trans hx125_0
        replace p125 := eq_true p125
        replace q125 := eq_true q125
        go_wp2
        go_loopg [9] k1 (fun kq v9 w' => ∃ (x9_2 : Int), v9 = .int .i64 x9_2 ∧ Aside0 (chairs_sit.l1 kq a0 x6_1 x7_1 x9_2 l1 (l1.length : Int) x14_1 = some (r1, r2)) ∧ Aside0 (kq ≤ k1) ∧ Aside0 (Kd.R Kd.bool 4 w' w.heap.size (fun _ => True) v123 x6_1) ∧ Aside0 (Kd.R (Kd.int .i64) 3 w' w.heap.size (fun _ => True) u7 x7_1) ∧ Aside0 (Below w.heap.size w w'))
        case atStart => exact ⟨(rd l1 x14_1), (by first | rfl | (simp; done) | (simp [*]; done)), H', ⟨Nat.le_refl _⟩, ⟨by (with_reducible repeat (first | apply Kd.R_alloc | apply Kd.R_drewN | apply Kd.R_drew)); exact HO_6.out⟩, ⟨by (with_reducible repeat (first | apply Kd.R_alloc | apply Kd.R_drewN | apply Kd.R_drew)); exact HO_7.out⟩, ⟨by repeat (first | (with_reducible first | exact HB.out | apply below_alloc | apply pw_below_drewN | apply below_drew1) | exact HB.out)⟩⟩
        case round =>
         clear H'
         try clear c1
         try clear p1
         try clear q1
         try clear hx1
         try clear p2
         try clear c3
         try clear c3b0
         try clear c3b1
         try clear c4
         try clear c4b0
         try clear c4b1
         try clear c5
         try clear c7
         try clear c7b0
         try clear c8
         try clear c8b0
         try clear c9
         try clear c9b0
         try clear hx125_0
         try clear p125
         try clear p2
         try clear q125
         obtain ⟨x9_2, rfl, HA, HK2, HO_6, HO_7, HB⟩ := hrel
         cases gk with
         | zero => exact absurd HA.out (by simp [chairs_sit.l1])
         | succ k2 =>
          have H := HA.out
          clear HA
          simp only [chairs_sit.l1] at H
          by_cases c10 : x9_2 < a0
          ·rw [if_pos c10] at H
           have c10b0 : decide (x9_2 < a0) = true := decide_eq_true c10
           clear c10
           by_cases c11 : 0 ≤ x9_2
           ·rw [if_pos c11] at H
            have c11b0 : decide (0 ≤ x9_2) = true := decide_eq_true c11
            clear c11
            by_cases c12 : x9_2 < (x6_1.length : Int)
            ·rw [if_pos c12] at H
             have c12b0 : decide (x9_2 < (x6_1.length : Int)) = true := decide_eq_true c12
             clear c12
             obtain ⟨bq13, hbq13⟩ : ∃ b_ : Bool, b_ = (rdOf false x6_1 x9_2) := ⟨_, rfl⟩
             replace H : (if bq13 = true then (chairs_sit.l1 k2 a0 x6_1 x7_1 (wrap64 (x9_2 + 1)) l1 (l1.length : Int) x14_1) else (if x9_2 = a0 then (some (([] : List Int), false)) else (if x7_1.length < 17592186044416 then (chairs_sit.l0 k2 a0 (x6_1.set (x9_2 : Int).toNat true) (x7_1 ++ [x9_2]) l1 (l1.length : Int) (wrap64 (x14_1 + 1))) else (none)))) = some (r1, r2) := by rw [← hbq13] at H; exact H
             have Nbq13 := Aside0.mk hbq13
             clear hbq13
             by_cases c14 : bq13 = true
             ·subst c14
              have H1 : (chairs_sit.l1 k2 a0 x6_1 x7_1 (wrap64 (x9_2 + 1)) l1 (l1.length : Int) x14_1) = some (r1, r2) := by rw [if_pos rfl] at H; exact H
              clear H
              have H := H1
              clear H1
              have H' := Aside0.mk H
              clear H
              obtain ⟨Ao15, co15, eo15⟩ := Kd.R_slice HO_6.out
              subst eo15
              have p126 : 0 ≤ (x9_2 : Int) := of_decide_eq_true (by first | (with_reducible assumption) | assumption)
              have q126 : x9_2 < (x6_1.length : Int) := of_decide_eq_true (by first | (with_reducible assumption) | assumption)
              obtain ⟨ad126, e126, hx126_0⟩ := Kd.at_bool (Kd.R_reads' HO_6.out).2.2 x9_2 p126 q126
              (try rw [← Nbq13.out] at hx126_0)
              cases e126
              replace p126 := eq_true p126
              replace q126 := eq_true q126
              go_wp2
              go_roundg k2
              case measure => have := HK1.out; have := HK2.out; omega
              case rel => exact ⟨(wrap64 (x9_2 + 1)), (by first | rfl | (simp; done) | (simp [*]; done)), H', ⟨by have := HK1.out; have := HK2.out; omega⟩, ⟨by (with_reducible repeat (first | apply Kd.R_alloc | apply Kd.R_drewN | apply Kd.R_drew)); exact HO_6.out⟩, ⟨by (with_reducible repeat (first | apply Kd.R_alloc | apply Kd.R_drewN | apply Kd.R_drew)); exact HO_7.out⟩, ⟨by repeat (first | (with_reducible first | exact HB.out | apply below_alloc | apply pw_below_drewN | apply below_drew1) | exact HB.out)⟩⟩
             ·replace c14 := Bool.eq_false_iff.mpr c14
              subst c14
              have H1 : (if x9_2 = a0 then (some (([] : List Int), false)) else (if x7_1.length < 17592186044416 then (chairs_sit.l0 k2 a0 (x6_1.set (x9_2 : Int).toNat true) (x7_1 ++ [x9_2]) l1 (l1.length : Int) (wrap64 (x14_1 + 1))) else (none))) = some (r1, r2) := by rw [if_neg (show ¬ (false = true) by decide)] at H; exact H
              clear H
              have H := H1
              clear H1
              by_cases c16 : x9_2 = a0
              ·rw [if_pos c16] at H
               have c16b0 : (x9_2 == a0) = true := beq_iff_eq.mpr c16
               have c16b1 : (x9_2 != a0) = false := bne_eq_false_iff_eq.mpr c16
               clear c16
               simp only [Option.some.injEq, Prod.mk.injEq] at H
               obtain ⟨rfl, rfl⟩ := H
               obtain ⟨Ao17, co17, eo17⟩ := Kd.R_slice HO_6.out
               subst eo17
               have p126 : 0 ≤ (x9_2 : Int) := of_decide_eq_true (by first | (with_reducible assumption) | assumption)
               have q126 : x9_2 < (x6_1.length : Int) := of_decide_eq_true (by first | (with_reducible assumption) | assumption)
               obtain ⟨ad126, e126, hx126_0⟩ := Kd.at_bool (Kd.R_reads' HO_6.out).2.2 x9_2 p126 q126
               (try rw [← Nbq13.out] at hx126_0)
               cases e126
               replace p126 := eq_true p126
               replace q126 := eq_true q126
               go_wp2
               go_ret2
               exact ⟨_, by first | rfl | (simp [errW_none, errW_some] <;> rfl) | (simp [*, errW_none, errW_some] <;> rfl), by first | exact Kd.R_nil _ _ _ _ _ | exact Kd.N_nil _ _ _ _ _ | exact Kd.V_nil _ _ _ _ _ | exact Kd.Q_nil _ _ _ _ _ | exact Kd.S_nil _ _ _ _ _, by repeat (first | (with_reducible first | exact HB.out | apply below_alloc | apply pw_below_drewN | apply below_drew1) | exact HB.out)⟩
              ·rw [if_neg c16] at H
               have c16b0 : (x9_2 == a0) = false := beq_eq_false_iff_ne.mpr c16
               have c16b1 : (x9_2 != a0) = true := bne_iff_ne.mpr c16
               obtain ⟨y127, hy127⟩ : ∃ y_ : List Bool, y_ = (x6_1.set (x9_2 : Int).toNat true) := ⟨_, rfl⟩
               replace H : (if x7_1.length < 17592186044416 then (chairs_sit.l0 k2 a0 y127 (x7_1 ++ [x9_2]) l1 (l1.length : Int) (wrap64 (x14_1 + 1))) else (none)) = some (r1, r2) := by first | (rw [hy127]; with_reducible exact H) | (have H2_ := (Option.bind_some _ _).symm.trans H; rw [hy127]; with_reducible exact H2_) | (have H2_ := (Option.bind_some _ _).symm.trans H; with_reducible exact H2_) | with_reducible exact H | (rw [hy127]; exact H) | exact H
               have Ny127 := Aside0.mk hy127
               clear hy127
               by_cases c19 : x7_1.length < 17592186044416
               ·rw [if_pos c19] at H
                have LMc19 := Aside0.mk c19
                clear c19
                obtain ⟨y128, hy128⟩ : ∃ y_ : List Int, y_ = (x7_1 ++ [x9_2]) := ⟨_, rfl⟩
                replace H : (chairs_sit.l0 k2 a0 y127 y128 l1 (l1.length : Int) (wrap64 (x14_1 + 1))) = some (r1, r2) := by first | (rw [hy128]; with_reducible exact H) | (have H2_ := (Option.bind_some _ _).symm.trans H; rw [hy128]; with_reducible exact H2_) | (have H2_ := (Option.bind_some _ _).symm.trans H; with_reducible exact H2_) | with_reducible exact H | (rw [hy128]; exact H) | exact H
                have Ny128 := Aside0.mk hy128
                clear hy128
                have H' := Aside0.mk H
                clear H
                obtain ⟨Ao20, co20, eo20⟩ := Kd.R_slice HO_6.out
                subst eo20
                have p126 : 0 ≤ (x9_2 : Int) := of_decide_eq_true (by first | (with_reducible assumption) | assumption)
                have q126 : x9_2 < (x6_1.length : Int) := of_decide_eq_true (by first | (with_reducible assumption) | assumption)
                obtain ⟨ad126, e126, hx126_0⟩ := Kd.at_bool (Kd.R_reads' HO_6.out).2.2 x9_2 p126 q126
                (try rw [← Nbq13.out] at hx126_0)
                cases e126
                replace p126 := eq_true p126
                replace q126 := eq_true q126
                have p18 : 0 ≤ (x9_2 : Int) := of_decide_eq_true (by first | (with_reducible assumption) | assumption)
                have q18 : (x9_2 : Int) < ((x6_1.length : Int) : Int) := of_decide_eq_true (by first | (with_reducible assumption) | assumption)
                obtain ⟨go18, co18, eo18, gb18, gl18, cl18, HG18⟩ := Kd.R_form HO_6.out (by omega)
                (first | cases eo18 | (injection eo18 with ea_ en_ ec_; (first | subst ea_ | (injection ea_ with ea_; subst ea_)); subst ec_; clear en_))
                have GB18 := Aside0.mk gb18
                have GG18 := Aside0.mk HG18
                clear gb18 gl18 HG18
                (first | simp only [add_plain] at hx126_0 | skip)
                obtain ⟨hx18_0, hf18_0⟩ := Kd.R_celln false HO_6.out (x9_2 : Int) p18 q18
                replace p18 := eq_true p18
                replace q18 := eq_true q18
                have HP21 := Kd.R_putg HO_6.out (x9_2 : Int) true
                go_wp2_with (first | ((with_reducible refine gate_store (t := 4) (p := 34) rfl ?_); refine store_event (t := 4) (p := 34) (v := ?vo_w22) (w1 := (wr.setCell ⟨go18, (x9_2 : Int).toNat, none⟩ (.bool true))) ?hg ?ho ?hn ?hr ?_; (case ho => rfl); (case hg => rfl); (case hn => rfl); (case hr => first | (go_simp; done) | (go_simp; rfl)); intro w22 hw; have hg : wr.grownBy w22 (some go18) := (by rw [hw]; exact HP21.2); have hp_ : Kd.R Kd.bool 4 w22 w.heap.size (fun _ => True) (.slice (some ⟨go18, 0, none⟩) x6_1.length co20) y127 := (by rw [hw, Ny127.out]; exact HP21.1); clear HP21; have n0_ := Aside0.mk (hp_); have n1_ := Aside0.mk (Kd.R_over' (v := (.slice (some ⟨go18, 0, none⟩) x6_1.length co20)) (by (with_reducible repeat (first | apply Kd.R_alloc | apply Kd.R_drewN | apply Kd.R_drew)); exact HO_7.out) (Kd.R_typed HO_6.out) (by decide) hg); have n2_ := Aside0.mk ((by rw [hw]; exact below_set (HB.out) GB18.out : Below w.heap.size w w22)); clear HO_6; clear HO_7; clear HB; have HO_6 := n0_; have HO_7 := n1_; have HB := n2_; clear n0_ n1_ n2_; clear hg hw hp_) | ((with_reducible refine gate_builtin (b := .append) (xs := #[.tmp 35, .tmp 37]) rfl ?_); at_builtin; refine Kd.R_append (Kd.int .i64) (w0 := w) w.heap.size rfl (.tmp 35) (.tmp 37) 22 3 (.int .i64 0) 8 rfl Try.underlying22 info3 rfl (by decide) (by omega) u7 x7_1 x9_2 [.int .i64 x9_2] (fun _ => True) (fun _ => False) rfl rfl ?aP (fun _ hk => hk.elim) ?aF ?aO ?aB ?aS ?aL ?_; (case aP => exact rfl); (case aB => exact (by repeat (first | (with_reducible first | exact HB.out | apply below_alloc | apply pw_below_drewN | apply below_drew1) | exact HB.out))); (case aF => exact (fun _ _ => trivial)); (case aO => exact (by (with_reducible repeat (first | apply Kd.R_alloc | apply Kd.R_drewN | apply Kd.R_drew)); exact HO_7.out)); (case aS => exact (below_size (by repeat (first | (with_reducible first | exact HB.out | apply below_alloc | apply pw_below_drewN | apply below_drew1) | exact HB.out)))); (case aL => have := LMc19.out; omega); intro v129 w23 ho hb hg hat; rw [← Ny128.out] at ho; have n0_ := Aside0.mk (Kd.R_over' (by (with_reducible repeat (first | apply Kd.R_alloc | apply Kd.R_drewN | apply Kd.R_drew)); exact HO_6.out) (Kd.R_typed (by (with_reducible repeat (first | apply Kd.R_alloc | apply Kd.R_drewN | apply Kd.R_drew)); exact HO_7.out)) (by decide) hg); have n1_ := Aside0.mk (hb); have n2_ := Aside0.mk (ho); clear HO_6; clear HB; clear HO_7; have HO_6 := n0_; have HB := n1_; have HO130 := n2_; clear n0_ n1_ n2_; clear ho hb hg hat))
                go_roundg k2
                case measure => have := HK1.out; have := HK2.out; omega
                case rel => exact ⟨(y127), (y128), (wrap64 (x14_1 + 1)), (by first | rfl | (simp; done) | (simp [*]; done)), H', ⟨by have := HK1.out; have := HK2.out; omega⟩, ⟨by (with_reducible repeat (first | apply Kd.R_alloc | apply Kd.R_drewN | apply Kd.R_drew)); exact HO_6.out⟩, ⟨by (with_reducible repeat (first | apply Kd.R_alloc | apply Kd.R_drewN | apply Kd.R_drew)); exact HO130.out⟩, ⟨by repeat (first | (with_reducible first | exact HB.out | apply below_alloc | apply pw_below_drewN | apply below_drew1) | exact HB.out)⟩⟩
               ·rw [if_neg c19] at H
                exact absurd H (by simp)
            ·rw [if_neg c12] at H
             exact absurd H (by simp)
           ·rw [if_neg c11] at H
            exact absurd H (by simp)
          ·rw [if_neg c10] at H
           have c10b0 : decide (x9_2 < a0) = false := decide_eq_false c10
           clear c10
           by_cases c24 : x9_2 = a0
           ·rw [if_pos c24] at H
            have c24b0 : (x9_2 == a0) = true := beq_iff_eq.mpr c24
            have c24b1 : (x9_2 != a0) = false := bne_eq_false_iff_eq.mpr c24
            clear c24
            simp only [Option.some.injEq, Prod.mk.injEq] at H
            obtain ⟨rfl, rfl⟩ := H
            go_wp2
            go_ret2
            exact ⟨_, by first | rfl | (simp [errW_none, errW_some] <;> rfl) | (simp [*, errW_none, errW_some] <;> rfl), by first | exact Kd.R_nil _ _ _ _ _ | exact Kd.N_nil _ _ _ _ _ | exact Kd.V_nil _ _ _ _ _ | exact Kd.Q_nil _ _ _ _ _ | exact Kd.S_nil _ _ _ _ _, by repeat (first | (with_reducible first | exact HB.out | apply below_alloc | apply pw_below_drewN | apply below_drew1) | exact HB.out)⟩
           ·rw [if_neg c24] at H
            have c24b0 : (x9_2 == a0) = false := beq_eq_false_iff_ne.mpr c24
            have c24b1 : (x9_2 != a0) = true := bne_iff_ne.mpr c24
            by_cases c25 : 0 ≤ x9_2
            ·rw [if_pos c25] at H
             have c25b0 : decide (0 ≤ x9_2) = true := decide_eq_true c25
             clear c25
             by_cases c26 : x9_2 < (x6_1.length : Int)
             ·rw [if_pos c26] at H
              have c26b0 : decide (x9_2 < (x6_1.length : Int)) = true := decide_eq_true c26
              clear c26
              obtain ⟨y131, hy131⟩ : ∃ y_ : List Bool, y_ = (x6_1.set (x9_2 : Int).toNat true) := ⟨_, rfl⟩
              replace H : (if x7_1.length < 17592186044416 then (chairs_sit.l0 k2 a0 y131 (x7_1 ++ [x9_2]) l1 (l1.length : Int) (wrap64 (x14_1 + 1))) else (none)) = some (r1, r2) := by first | (rw [hy131]; with_reducible exact H) | (have H2_ := (Option.bind_some _ _).symm.trans H; rw [hy131]; with_reducible exact H2_) | (have H2_ := (Option.bind_some _ _).symm.trans H; with_reducible exact H2_) | with_reducible exact H | (rw [hy131]; exact H) | exact H
              have Ny131 := Aside0.mk hy131
              clear hy131
              by_cases c28 : x7_1.length < 17592186044416
              ·rw [if_pos c28] at H
               have LMc28 := Aside0.mk c28
               clear c28
               obtain ⟨y132, hy132⟩ : ∃ y_ : List Int, y_ = (x7_1 ++ [x9_2]) := ⟨_, rfl⟩
               replace H : (chairs_sit.l0 k2 a0 y131 y132 l1 (l1.length : Int) (wrap64 (x14_1 + 1))) = some (r1, r2) := by first | (rw [hy132]; with_reducible exact H) | (have H2_ := (Option.bind_some _ _).symm.trans H; rw [hy132]; with_reducible exact H2_) | (have H2_ := (Option.bind_some _ _).symm.trans H; with_reducible exact H2_) | with_reducible exact H | (rw [hy132]; exact H) | exact H
               have Ny132 := Aside0.mk hy132
               clear hy132
               have H' := Aside0.mk H
               clear H
               have p27 : 0 ≤ (x9_2 : Int) := of_decide_eq_true (by first | (with_reducible assumption) | assumption)
               have q27 : (x9_2 : Int) < ((x6_1.length : Int) : Int) := of_decide_eq_true (by first | (with_reducible assumption) | assumption)
               obtain ⟨go27, co27, eo27, gb27, gl27, cl27, HG27⟩ := Kd.R_form HO_6.out (by omega)
               (first | cases eo27 | (injection eo27 with ea_ en_ ec_; (first | subst ea_ | (injection ea_ with ea_; subst ea_)); subst ec_; clear en_))
               have GB27 := Aside0.mk gb27
               have GG27 := Aside0.mk HG27
               clear gb27 gl27 HG27
               obtain ⟨hx27_0, hf27_0⟩ := Kd.R_celln false HO_6.out (x9_2 : Int) p27 q27
               replace p27 := eq_true p27
               replace q27 := eq_true q27
               have HP29 := Kd.R_putg HO_6.out (x9_2 : Int) true
               go_wp2_with (first | ((with_reducible refine gate_store (t := 4) (p := 34) rfl ?_); refine store_event (t := 4) (p := 34) (v := ?vo_w30) (w1 := (wr.setCell ⟨go27, (x9_2 : Int).toNat, none⟩ (.bool true))) ?hg ?ho ?hn ?hr ?_; (case ho => rfl); (case hg => rfl); (case hn => rfl); (case hr => first | (go_simp; done) | (go_simp; rfl)); intro w30 hw; have hg : wr.grownBy w30 (some go27) := (by rw [hw]; exact HP29.2); have hp_ : Kd.R Kd.bool 4 w30 w.heap.size (fun _ => True) (.slice (some ⟨go27, 0, none⟩) x6_1.length co27) y131 := (by rw [hw, Ny131.out]; exact HP29.1); clear HP29; have n0_ := Aside0.mk (hp_); have n1_ := Aside0.mk (Kd.R_over' (v := (.slice (some ⟨go27, 0, none⟩) x6_1.length co27)) (by (with_reducible repeat (first | apply Kd.R_alloc | apply Kd.R_drewN | apply Kd.R_drew)); exact HO_7.out) (Kd.R_typed HO_6.out) (by decide) hg); have n2_ := Aside0.mk ((by rw [hw]; exact below_set (HB.out) GB27.out : Below w.heap.size w w30)); clear HO_6; clear HO_7; clear HB; have HO_6 := n0_; have HO_7 := n1_; have HB := n2_; clear n0_ n1_ n2_; clear hg hw hp_) | ((with_reducible refine gate_builtin (b := .append) (xs := #[.tmp 35, .tmp 37]) rfl ?_); at_builtin; refine Kd.R_append (Kd.int .i64) (w0 := w) w.heap.size rfl (.tmp 35) (.tmp 37) 22 3 (.int .i64 0) 8 rfl Try.underlying22 info3 rfl (by decide) (by omega) u7 x7_1 x9_2 [.int .i64 x9_2] (fun _ => True) (fun _ => False) rfl rfl ?aP (fun _ hk => hk.elim) ?aF ?aO ?aB ?aS ?aL ?_; (case aP => exact rfl); (case aB => exact (by repeat (first | (with_reducible first | exact HB.out | apply below_alloc | apply pw_below_drewN | apply below_drew1) | exact HB.out))); (case aF => exact (fun _ _ => trivial)); (case aO => exact (by (with_reducible repeat (first | apply Kd.R_alloc | apply Kd.R_drewN | apply Kd.R_drew)); exact HO_7.out)); (case aS => exact (below_size (by repeat (first | (with_reducible first | exact HB.out | apply below_alloc | apply pw_below_drewN | apply below_drew1) | exact HB.out)))); (case aL => have := LMc28.out; omega); intro v133 w31 ho hb hg hat; rw [← Ny132.out] at ho; have n0_ := Aside0.mk (Kd.R_over' (by (with_reducible repeat (first | apply Kd.R_alloc | apply Kd.R_drewN | apply Kd.R_drew)); exact HO_6.out) (Kd.R_typed (by (with_reducible repeat (first | apply Kd.R_alloc | apply Kd.R_drewN | apply Kd.R_drew)); exact HO_7.out)) (by decide) hg); have n1_ := Aside0.mk (hb); have n2_ := Aside0.mk (ho); clear HO_6; clear HB; clear HO_7; have HO_6 := n0_; have HB := n1_; have HO134 := n2_; clear n0_ n1_ n2_; clear ho hb hg hat))
               go_roundg k2
               case measure => have := HK1.out; have := HK2.out; omega
               case rel => exact ⟨(y131), (y132), (wrap64 (x14_1 + 1)), (by first | rfl | (simp; done) | (simp [*]; done)), H', ⟨by have := HK1.out; have := HK2.out; omega⟩, ⟨by (with_reducible repeat (first | apply Kd.R_alloc | apply Kd.R_drewN | apply Kd.R_drew)); exact HO_6.out⟩, ⟨by (with_reducible repeat (first | apply Kd.R_alloc | apply Kd.R_drewN | apply Kd.R_drew)); exact HO134.out⟩, ⟨by repeat (first | (with_reducible first | exact HB.out | apply below_alloc | apply pw_below_drewN | apply below_drew1) | exact HB.out)⟩⟩
              ·rw [if_neg c28] at H
               exact absurd H (by simp)
             ·rw [if_neg c26] at H
              exact absurd H (by simp)
            ·rw [if_neg c25] at H
             exact absurd H (by simp)
       ·rw [if_neg c9] at H
        exact absurd H (by simp)
      ·rw [if_neg c8] at H
       exact absurd H (by simp)
     ·rw [if_neg c7] at H
      have c7b0 : decide (x14_1 < (l1.length : Int)) = false := decide_eq_false c7
      clear c7
      simp only [Option.some.injEq, Prod.mk.injEq] at H
      obtain ⟨rfl, rfl⟩ := H
      go_wp2
      go_ret2
      exact ⟨_, by first | rfl | (simp [errW_none, errW_some] <;> rfl) | (simp [*, errW_none, errW_some] <;> rfl), by (with_reducible repeat (first | apply Kd.R_alloc | apply Kd.R_drewN | apply Kd.R_drew)); exact HO_7.out, by repeat (first | (with_reducible first | exact HB.out | apply below_alloc | apply pw_below_drewN | apply below_drew1) | exact HB.out)⟩
  ·rw [if_neg c4] at H
   exact absurd H (by simp)
 ·rw [if_neg c3] at H
  exact absurd H (by simp)
/-! ### pomadelaw03_same: function 26 -/
def pomadelaw03_same.l0 : Nat → List Int → List Int → Int → Option (Bool)
 | 0, _, _, _ => none
 | k + 1, x0, x1, x5 => if x5 < (x0.length : Int) then (if 0 ≤ x5 then (if x5 < (x1.length : Int) then (if (rd x0 x5) = (rd x1 x5) then (pomadelaw03_same.l0 k x0 x1 (wrap64 (x5 + 1))) else (some false)) else (none)) else (none)) else (some true)
def pomadelaw03_same.f (k : Nat) (l0 : List Int) (l1 : List Int) : Option (Bool) := if (l0.length : Int) = (l1.length : Int) then (pomadelaw03_same.l0 k l0 l1 0) else (some false)
theorem pomadelaw03_same.mono_l : ∀ k, (∀ y0 y1 y2, LeO (pomadelaw03_same.l0 k y0 y1 y2) (pomadelaw03_same.l0 (k + 1) y0 y1 y2))
 | 0 => fun _ _ _ r h => by simp [pomadelaw03_same.l0] at h
 | k + 1 => by
  have ih0 := pomadelaw03_same.mono_l k
  ·intro y0 y1 y2
   unfold pomadelaw03_same.l0
   repeat' first
   | (with_reducible exact ih0 _ _ _)
   | (with_reducible exact LeO.refl _)
   | (with_reducible exact LeO.none _)
   | (with_reducible refine LeO.ite ?_ ?_)
   | (with_reducible refine LeO.bind ?_ (fun _ => ?_))
   | exact ih0 _ _ _
   | exact LeO.none _
   | refine LeO.ite ?_ ?_
   | refine LeO.bind ?_ (fun _ => ?_)
theorem pomadelaw03_same.mono : ∀ a0 a1 k, LeO (pomadelaw03_same.f k a0 a1) (pomadelaw03_same.f (k + 1) a0 a1) := by
 intro a0 a1 k
 have ih0 := pomadelaw03_same.mono_l k
 unfold pomadelaw03_same.f
 repeat' first
   | (with_reducible exact ih0 _ _ _)
   | (with_reducible exact LeO.refl _)
   | (with_reducible exact LeO.none _)
   | (with_reducible refine LeO.ite ?_ ?_)
   | (with_reducible refine LeO.bind ?_ (fun _ => ?_))
   | exact ih0 _ _ _
   | exact LeO.none _
   | refine LeO.ite ?_ ?_
   | refine LeO.bind ?_ (fun _ => ?_)
set_option maxHeartbeats 8000000 in
set_option maxRecDepth 100000 in
theorem pomadelaw03_same.calls (k : Nat) (A0 : Option Addr) (c0 : Nat) (l0 : List Int) (A1 : Option Addr) (c1 : Nat) (l1 : List Int) (r : Bool) (w : World) (hr0 : Kd.C (Kd.int .i64) w A0 l0.length l0) (hc0 : l0.length ≤ c0) (hr1 : Kd.C (Kd.int .i64) w A1 l1.length l1) (hc1 : l1.length ≤ c1) (h : pomadelaw03_same.f k l0 l1 = some r) :
  Calls Try.prog 26 #[.slice A0 l0.length c0, .slice A1 l1.length c1] w fun e w' => e = .returned (.bool r) ∧ Drawn0 w w' := by
 have HR0 := Aside0.mk hr0
 have HC0 := Aside0.mk hc0
 clear hr0 hc0
 have HR1 := Aside0.mk hr1
 have HC1 := Aside0.mk hc1
 clear hr1 hc1
 have H : (if (l0.length : Int) = (l1.length : Int) then (pomadelaw03_same.l0 k l0 l1 0) else (some false)) = some r := h
 clear h
 by_cases c3 : (l0.length : Int) = (l1.length : Int)
 ·rw [if_pos c3] at H
  have c3b0 : ((l0.length : Int) == (l1.length : Int)) = true := beq_iff_eq.mpr c3
  have c3b1 : ((l0.length : Int) != (l1.length : Int)) = false := bne_eq_false_iff_eq.mpr c3
  have c3b2 : (l0.length == l1.length) = true := by first | simpa using c3 | (simp at c3 ⊢; omega)
  clear c3
  have H' := Aside0.mk H
  clear H
  go_enter Try.func26, Try.ntmps26
  go_wp2
  repeat (go_quiet (fail); try go_wp2)
  go_loopg [5] k (fun kq v5 w' => ∃ (x5_1 : Int), v5 = .int .i64 x5_1 ∧ Aside0 (pomadelaw03_same.l0 kq l0 l1 x5_1 = some r) ∧ Aside0 (kq ≤ k) ∧ Drawn0 w w')
  case atStart => exact ⟨(0), (by first | rfl | (simp; done) | (simp [*]; done)), H', ⟨Nat.le_refl _⟩, by repeat (first | exact Drawn0.refl _ | apply Drawn0.step)⟩
  case round =>
   clear H'
   try clear c1
   try clear c2
   try clear p2
   try clear c3
   try clear c3b0
   try clear c3b1
   try clear c3b2
   obtain ⟨x5_1, rfl, HA, HK1, ⟨m1, rfl⟩⟩ := hrel
   cases gk with
   | zero => exact absurd HA.out (by simp [pomadelaw03_same.l0])
   | succ k1 =>
    have H := HA.out
    clear HA
    simp only [pomadelaw03_same.l0] at H
    by_cases c4 : x5_1 < (l0.length : Int)
    ·rw [if_pos c4] at H
     have c4b0 : decide (x5_1 < (l0.length : Int)) = true := decide_eq_true c4
     clear c4
     by_cases c5 : 0 ≤ x5_1
     ·rw [if_pos c5] at H
      have c5b0 : decide (0 ≤ x5_1) = true := decide_eq_true c5
      clear c5
      by_cases c6 : x5_1 < (l1.length : Int)
      ·rw [if_pos c6] at H
       have c6b0 : decide (x5_1 < (l1.length : Int)) = true := decide_eq_true c6
       clear c6
       by_cases c7 : (rd l0 x5_1) = (rd l1 x5_1)
       ·rw [if_pos c7] at H
        have c7b0 : ((rd l0 x5_1) == (rd l1 x5_1)) = true := beq_iff_eq.mpr c7
        have c7b1 : ((rd l0 x5_1) != (rd l1 x5_1)) = false := bne_eq_false_iff_eq.mpr c7
        clear c7
        have H' := Aside0.mk H
        clear H
        have p150 : 0 ≤ (x5_1 : Int) := of_decide_eq_true (by first | (with_reducible assumption) | assumption)
        have q150 : x5_1 < (l0.length : Int) := of_decide_eq_true (by first | (with_reducible assumption) | assumption)
        obtain ⟨ad150, e150, hx150_0⟩ := Kd.at_int HR0.out x5_1 p150 q150
        cases e150
        replace p150 := eq_true p150
        replace q150 := eq_true q150
        have p151 : 0 ≤ (x5_1 : Int) := of_decide_eq_true (by first | (with_reducible assumption) | assumption)
        have q151 : x5_1 < (l1.length : Int) := of_decide_eq_true (by first | (with_reducible assumption) | assumption)
        obtain ⟨ad151, e151, hx151_0⟩ := Kd.at_int HR1.out x5_1 p151 q151
        cases e151
        replace p151 := eq_true p151
        replace q151 := eq_true q151
        go_wp2
        repeat (go_quiet (fail); try go_wp2)
        go_roundg k1
        case measure => have := HK1.out; omega
        case rel => exact ⟨(wrap64 (x5_1 + 1)), (by first | rfl | (simp; done) | (simp [*]; done)), H', ⟨by have := HK1.out; omega⟩, by repeat (first | exact Drawn0.refl _ | apply Drawn0.step)⟩
       ·rw [if_neg c7] at H
        have c7b0 : ((rd l0 x5_1) == (rd l1 x5_1)) = false := beq_eq_false_iff_ne.mpr c7
        have c7b1 : ((rd l0 x5_1) != (rd l1 x5_1)) = true := bne_iff_ne.mpr c7
        obtain rfl := Option.some.inj H
        have p150 : 0 ≤ (x5_1 : Int) := of_decide_eq_true (by first | (with_reducible assumption) | assumption)
        have q150 : x5_1 < (l0.length : Int) := of_decide_eq_true (by first | (with_reducible assumption) | assumption)
        obtain ⟨ad150, e150, hx150_0⟩ := Kd.at_int HR0.out x5_1 p150 q150
        cases e150
        replace p150 := eq_true p150
        replace q150 := eq_true q150
        have p151 : 0 ≤ (x5_1 : Int) := of_decide_eq_true (by first | (with_reducible assumption) | assumption)
        have q151 : x5_1 < (l1.length : Int) := of_decide_eq_true (by first | (with_reducible assumption) | assumption)
        obtain ⟨ad151, e151, hx151_0⟩ := Kd.at_int HR1.out x5_1 p151 q151
        cases e151
        replace p151 := eq_true p151
        replace q151 := eq_true q151
        go_wp2
        repeat (go_quiet (fail); try go_wp2)
        go_ret
        exact ⟨by first | rfl | (simp; done) | (simp [*]; done), by repeat (first | exact Drawn0.refl _ | apply Drawn0.step)⟩
      ·rw [if_neg c6] at H
       exact absurd H (by simp)
     ·rw [if_neg c5] at H
      exact absurd H (by simp)
    ·rw [if_neg c4] at H
     have c4b0 : decide (x5_1 < (l0.length : Int)) = false := decide_eq_false c4
     clear c4
     obtain rfl := Option.some.inj H
     go_wp2
     repeat (go_quiet (fail); try go_wp2)
     go_ret
     exact ⟨by first | rfl | (simp; done) | (simp [*]; done), by repeat (first | exact Drawn0.refl _ | apply Drawn0.step)⟩
 ·rw [if_neg c3] at H
  have c3b0 : ((l0.length : Int) == (l1.length : Int)) = false := beq_eq_false_iff_ne.mpr c3
  have c3b1 : ((l0.length : Int) != (l1.length : Int)) = true := bne_iff_ne.mpr c3
  have c3b2 : (l0.length == l1.length) = false := by first | simpa using c3 | (simp at c3 ⊢; omega)
  obtain rfl := Option.some.inj H
  go_enter Try.func26, Try.ntmps26
  go_wp2
  repeat (go_quiet (fail); try go_wp2)
  go_ret
  exact ⟨by first | rfl | (simp; done) | (simp [*]; done), by repeat (first | exact Drawn0.refl _ | apply Drawn0.step)⟩
/-! ### chairs_Sit: function 31 -/
def chairs_Sit.f (k : Nat) (a0 : Int) (l1 : List Int) : Option (List Int × Int) := (chairs_wished.f a0 l1).bind fun t152 => (if t152 = 0 then ((chairs_sit.f k a0 l1).bind fun bt153 => (if bt153.2 = true then (some (bt153.1, 0)) else (some (([] : List Int), 10)))) else (some (([] : List Int), t152)))
theorem chairs_Sit.mono : ∀ a0 a1 k, LeO (chairs_Sit.f k a0 a1) (chairs_Sit.f (k + 1) a0 a1) := by
 intro a0 a1 k
 unfold chairs_Sit.f
 repeat' first
   | (with_reducible exact chairs_sit.mono _ _ _)
   | (with_reducible exact LeO.refl _)
   | (with_reducible exact LeO.none _)
   | (with_reducible refine LeO.ite ?_ ?_)
   | (with_reducible refine LeO.bind ?_ (fun _ => ?_))
   | exact chairs_sit.mono _ _ _
   | exact LeO.none _
   | refine LeO.ite ?_ ?_
   | refine LeO.bind ?_ (fun _ => ?_)
set_option maxHeartbeats 8000000 in
set_option maxRecDepth 100000 in
theorem chairs_Sit.calls (k : Nat) (a0 : Int) (A1 : Option Addr) (c1 : Nat) (l1 : List Int) (r1 : List Int) (r2 : Int) (w : World) (hr1 : Kd.C (Kd.int .i64) w A1 l1.length l1) (hc1 : l1.length ≤ c1) (h : chairs_Sit.f k a0 l1 = some (r1, r2)) :
  Calls Try.prog 31 #[.int .i64 a0, .slice A1 l1.length c1] w fun e w' => ∃ v0_ : Value, e = .returned (.tuple #[v0_, .int .i64 r2]) ∧ Kd.R (Kd.int .i64) 3 w' w.heap.size (fun _ => True) v0_ r1 ∧ Below w.heap.size w w' := by
 have HR1 := Aside0.mk hr1
 have HC1 := Aside0.mk hc1
 clear hr1 hc1
 have HB := Aside0.mk (Below.refl w.heap.size w)
 have H : ((chairs_wished.f a0 l1).bind fun t152 => (if t152 = 0 then ((chairs_sit.f k a0 l1).bind fun bt153 => (if bt153.2 = true then (some (bt153.1, 0)) else (some (([] : List Int), 10)))) else (some (([] : List Int), t152)))) = some (r1, r2) := h
 clear h
 replace H := Option.bind_eq_some_iff.mp H
 obtain ⟨t152, A30, H⟩ := H
 replace H : (if t152 = 0 then ((chairs_sit.f k a0 l1).bind fun bt153 => (if bt153.2 = true then (some (bt153.1, 0)) else (some (([] : List Int), 10)))) else (some (([] : List Int), t152))) = some (r1, r2) := H
 have A3 := Aside0.mk A30
 clear A30
 by_cases c4 : t152 = 0
 ·rw [if_pos c4] at H
  have c4b0 : (t152 == 0) = true := beq_iff_eq.mpr c4
  have c4b1 : (t152 != 0) = false := bne_eq_false_iff_eq.mpr c4
  clear c4
  replace H := Option.bind_eq_some_iff.mp H
  obtain ⟨⟨t153, t154⟩, A50, H⟩ := H
  replace H : (if t154 = true then (some (t153, 0)) else (some (([] : List Int), 10))) = some (r1, r2) := H
  have A5 := Aside0.mk A50
  clear A50
  by_cases c6 : t154 = true
  ·subst c6
   have H1 : (some (t153, 0)) = some (r1, r2) := by rw [if_pos rfl] at H; exact H
   clear H
   have H := H1
   clear H1
   simp only [Option.some.injEq, Prod.mk.injEq] at H
   obtain ⟨rfl, rfl⟩ := H
   go_enter Try.func31, Try.ntmps31
   go_wp2_with (first | ((with_reducible refine gate_callee (f := 51) rfl ?_); refine goesL_ (some 11) rfl rfl Try.func51 (by kernel_rfl) rfl #[.int .i64 a0, .slice A1 l1.length c1] rfl (by (try simp only [List.map_toArray, List.map_cons, List.map_nil]); first | done | rfl | (simp only [List.length_drop, List.length_take]; rfl)) ?_; (with_reducible refine (chairs_wished.calls a0 _ _ l1 t152 _ ?side1 ?side2 A3.out).mono ?_); (case side1 => repeat (first | exact HR1.out | (with_reducible refine Kd.C_alloc ?_ _) | (with_reducible refine Kd.C_drewN ?_ _) | (with_reducible refine Kd.C_drew ?_))); (case side2 => exact HC1.out); rintro e w7 ⟨rfl, hb⟩; refine ⟨_, rfl, ?_⟩; have n0_ := Aside0.mk (below_step (by repeat (first | (with_reducible first | exact HB.out | apply below_alloc | apply pw_below_drewN | apply below_drew1) | exact HB.out)) hb); clear HB; have HB := n0_; clear n0_; (try clear hb); (try clear hb2); (try clear hk); (try clear hi)) | ((with_reducible refine gate_callee (f := 54) rfl ?_); refine goesL_ (some 18) rfl rfl Try.func54 (by kernel_rfl) rfl #[.int .i64 a0, .slice A1 l1.length c1] rfl (by (try simp only [List.map_toArray, List.map_cons, List.map_nil]); first | done | rfl | (simp only [List.length_drop, List.length_take]; rfl)) ?_; (with_reducible refine (chairs_sit.calls k a0 _ _ l1 t153 true _ ?side1 ?side2 A5.out).mono ?_); (case side1 => repeat (first | exact (Kd.C_below HR1.out HB.out) | (with_reducible refine Kd.C_alloc ?_ _) | (with_reducible refine Kd.C_drewN ?_ _) | (with_reducible refine Kd.C_drew ?_))); (case side2 => exact HC1.out); rintro e w8 ⟨v155, rfl, ho0, hb⟩; refine ⟨_, rfl, ?_⟩; have n0_ := Aside0.mk (Kd.R_lower ho0 (below_size (by repeat (first | (with_reducible first | exact HB.out | apply below_alloc | apply pw_below_drewN | apply below_drew1) | exact HB.out)))); have n1_ := Aside0.mk (below_step (by repeat (first | (with_reducible first | exact HB.out | apply below_alloc | apply pw_below_drewN | apply below_drew1) | exact HB.out)) hb); clear HB; have HO156 := n0_; have HB := n1_; clear n0_ n1_; (try clear hb); (try clear hb2); (try clear hk); (try clear hi); (try clear ho0)))
   go_ret2
   exact ⟨_, by first | rfl | (simp [errW_none, errW_some] <;> rfl) | (simp [*, errW_none, errW_some] <;> rfl), by (with_reducible repeat (first | apply Kd.R_alloc | apply Kd.R_drewN | apply Kd.R_drew)); exact HO156.out, by repeat (first | (with_reducible first | exact HB.out | apply below_alloc | apply pw_below_drewN | apply below_drew1) | exact HB.out)⟩
  ·replace c6 := Bool.eq_false_iff.mpr c6
   subst c6
   have H1 : (some (([] : List Int), 10)) = some (r1, r2) := by rw [if_neg (show ¬ (false = true) by decide)] at H; exact H
   clear H
   have H := H1
   clear H1
   simp only [Option.some.injEq, Prod.mk.injEq] at H
   obtain ⟨rfl, rfl⟩ := H
   go_enter Try.func31, Try.ntmps31
   go_wp2_with (first | ((with_reducible refine gate_callee (f := 51) rfl ?_); refine goesL_ (some 11) rfl rfl Try.func51 (by kernel_rfl) rfl #[.int .i64 a0, .slice A1 l1.length c1] rfl (by (try simp only [List.map_toArray, List.map_cons, List.map_nil]); first | done | rfl | (simp only [List.length_drop, List.length_take]; rfl)) ?_; (with_reducible refine (chairs_wished.calls a0 _ _ l1 t152 _ ?side1 ?side2 A3.out).mono ?_); (case side1 => repeat (first | exact HR1.out | (with_reducible refine Kd.C_alloc ?_ _) | (with_reducible refine Kd.C_drewN ?_ _) | (with_reducible refine Kd.C_drew ?_))); (case side2 => exact HC1.out); rintro e w9 ⟨rfl, hb⟩; refine ⟨_, rfl, ?_⟩; have n0_ := Aside0.mk (below_step (by repeat (first | (with_reducible first | exact HB.out | apply below_alloc | apply pw_below_drewN | apply below_drew1) | exact HB.out)) hb); clear HB; have HB := n0_; clear n0_; (try clear hb); (try clear hb2); (try clear hk); (try clear hi)) | ((with_reducible refine gate_callee (f := 54) rfl ?_); refine goesL_ (some 18) rfl rfl Try.func54 (by kernel_rfl) rfl #[.int .i64 a0, .slice A1 l1.length c1] rfl (by (try simp only [List.map_toArray, List.map_cons, List.map_nil]); first | done | rfl | (simp only [List.length_drop, List.length_take]; rfl)) ?_; (with_reducible refine (chairs_sit.calls k a0 _ _ l1 t153 false _ ?side1 ?side2 A5.out).mono ?_); (case side1 => repeat (first | exact (Kd.C_below HR1.out HB.out) | (with_reducible refine Kd.C_alloc ?_ _) | (with_reducible refine Kd.C_drewN ?_ _) | (with_reducible refine Kd.C_drew ?_))); (case side2 => exact HC1.out); rintro e w10 ⟨v155, rfl, ho0, hb⟩; refine ⟨_, rfl, ?_⟩; have n0_ := Aside0.mk (Kd.R_lower ho0 (below_size (by repeat (first | (with_reducible first | exact HB.out | apply below_alloc | apply pw_below_drewN | apply below_drew1) | exact HB.out)))); have n1_ := Aside0.mk (below_step (by repeat (first | (with_reducible first | exact HB.out | apply below_alloc | apply pw_below_drewN | apply below_drew1) | exact HB.out)) hb); clear HB; have HO156 := n0_; have HB := n1_; clear n0_ n1_; (try clear hb); (try clear hb2); (try clear hk); (try clear hi); (try clear ho0)))
   go_ret2
   exact ⟨_, by first | rfl | (simp [errW_none, errW_some] <;> rfl) | (simp [*, errW_none, errW_some] <;> rfl), by first | exact Kd.R_nil _ _ _ _ _ | exact Kd.N_nil _ _ _ _ _ | exact Kd.V_nil _ _ _ _ _ | exact Kd.Q_nil _ _ _ _ _ | exact Kd.S_nil _ _ _ _ _, by repeat (first | (with_reducible first | exact HB.out | apply below_alloc | apply pw_below_drewN | apply below_drew1) | exact HB.out)⟩
 ·rw [if_neg c4] at H
  have c4b0 : (t152 == 0) = false := beq_eq_false_iff_ne.mpr c4
  have c4b1 : (t152 != 0) = true := bne_iff_ne.mpr c4
  simp only [Option.some.injEq, Prod.mk.injEq] at H
  obtain ⟨rfl, rfl⟩ := H
  go_enter Try.func31, Try.ntmps31
  go_wp2_with (first | ((with_reducible refine gate_callee (f := 51) rfl ?_); refine goesL_ (some 11) rfl rfl Try.func51 (by kernel_rfl) rfl #[.int .i64 a0, .slice A1 l1.length c1] rfl (by (try simp only [List.map_toArray, List.map_cons, List.map_nil]); first | done | rfl | (simp only [List.length_drop, List.length_take]; rfl)) ?_; (with_reducible refine (chairs_wished.calls a0 _ _ l1 t152 _ ?side1 ?side2 A3.out).mono ?_); (case side1 => repeat (first | exact HR1.out | (with_reducible refine Kd.C_alloc ?_ _) | (with_reducible refine Kd.C_drewN ?_ _) | (with_reducible refine Kd.C_drew ?_))); (case side2 => exact HC1.out); rintro e w11 ⟨rfl, hb⟩; refine ⟨_, rfl, ?_⟩; have n0_ := Aside0.mk (below_step (by repeat (first | (with_reducible first | exact HB.out | apply below_alloc | apply pw_below_drewN | apply below_drew1) | exact HB.out)) hb); clear HB; have HB := n0_; clear n0_; (try clear hb); (try clear hb2); (try clear hk); (try clear hi)))
  go_ret2
  exact ⟨_, by first | rfl | (simp [errW_none, errW_some] <;> rfl) | (simp [*, errW_none, errW_some] <;> rfl), by first | exact Kd.R_nil _ _ _ _ _ | exact Kd.N_nil _ _ _ _ _ | exact Kd.V_nil _ _ _ _ _ | exact Kd.Q_nil _ _ _ _ _ | exact Kd.S_nil _ _ _ _ _, by repeat (first | (with_reducible first | exact HB.out | apply below_alloc | apply pw_below_drewN | apply below_drew1) | exact HB.out)⟩
/-! ### chairs_same: function 59 -/
def chairs_same.f (l0 : List Int) : Option (Int) := if (l0.length : Int) = 0 then (some 3) else (if (l0.length : Int) > 30 then (some 3) else ((chairs_wished.f (l0.length : Int) l0).bind fun t157 => (some t157)))
set_option maxHeartbeats 8000000 in
set_option maxRecDepth 100000 in
theorem chairs_same.calls (A0 : Option Addr) (c0 : Nat) (l0 : List Int) (r : Int) (w : World) (hr0 : Kd.C (Kd.int .i64) w A0 l0.length l0) (hc0 : l0.length ≤ c0) (h : chairs_same.f l0 = some r) :
  Calls Try.prog 59 #[.slice A0 l0.length c0] w fun e w' => e = .returned (.int .i64 r) ∧ Below w.heap.size w w' := by
 have HR0 := Aside0.mk hr0
 have HC0 := Aside0.mk hc0
 clear hr0 hc0
 have HB := Aside0.mk (Below.refl w.heap.size w)
 have H : (if (l0.length : Int) = 0 then (some 3) else (if (l0.length : Int) > 30 then (some 3) else ((chairs_wished.f (l0.length : Int) l0).bind fun t157 => (some t157)))) = some r := h
 clear h
 by_cases c2 : (l0.length : Int) = 0
 ·rw [if_pos c2] at H
  have c2b0 : ((l0.length : Int) == 0) = true := beq_iff_eq.mpr c2
  have c2b1 : ((l0.length : Int) != 0) = false := bne_eq_false_iff_eq.mpr c2
  clear c2
  obtain rfl := Option.some.inj H
  go_enter Try.func59, Try.ntmps59
  go_wp2
  go_ret
  exact ⟨by first | rfl | (simp [errW_none, errW_some] <;> rfl) | (simp [*, errW_none, errW_some] <;> rfl), by repeat (first | (with_reducible first | exact HB.out | apply below_alloc | apply pw_below_drewN | apply below_drew1) | exact HB.out)⟩
 ·rw [if_neg c2] at H
  have c2b0 : ((l0.length : Int) == 0) = false := beq_eq_false_iff_ne.mpr c2
  have c2b1 : ((l0.length : Int) != 0) = true := bne_iff_ne.mpr c2
  have c2b2 : ¬ (l0 = []) := fun h_ => c2 (by rw [h_]; rfl)
  by_cases c3 : (l0.length : Int) > 30
  ·rw [if_pos c3] at H
   have c3b0 : decide (30 < (l0.length : Int)) = true := decide_eq_true c3
   have c3b1 : decide (30 < l0.length) = true := decide_eq_true (by omega)
   clear c3
   obtain rfl := Option.some.inj H
   go_enter Try.func59, Try.ntmps59
   go_wp2
   go_ret
   exact ⟨by first | rfl | (simp [errW_none, errW_some] <;> rfl) | (simp [*, errW_none, errW_some] <;> rfl), by repeat (first | (with_reducible first | exact HB.out | apply below_alloc | apply pw_below_drewN | apply below_drew1) | exact HB.out)⟩
  ·rw [if_neg c3] at H
   have c3b0 : decide (30 < (l0.length : Int)) = false := decide_eq_false c3
   have c3b1 : decide (30 < l0.length) = false := decide_eq_false (by omega)
   clear c3
   replace H := Option.bind_eq_some_iff.mp H
   obtain ⟨t157, A40, H⟩ := H
   replace H : (some t157) = some r := H
   have A4 := Aside0.mk A40
   clear A40
   obtain rfl := Option.some.inj H
   go_enter Try.func59, Try.ntmps59
   go_wp2_with (first | ((with_reducible refine gate_callee (f := 51) rfl ?_); refine goesL_ (some 14) rfl rfl Try.func51 (by kernel_rfl) rfl #[.int .i64 (l0.length : Int), .slice A0 l0.length c0] rfl (by (try simp only [List.map_toArray, List.map_cons, List.map_nil]); first | done | rfl | (simp only [List.length_drop, List.length_take]; rfl)) ?_; (with_reducible refine (chairs_wished.calls (l0.length : Int) _ _ l0 t157 _ ?side1 ?side2 A4.out).mono ?_); (case side1 => repeat (first | exact HR0.out | (with_reducible refine Kd.C_alloc ?_ _) | (with_reducible refine Kd.C_drewN ?_ _) | (with_reducible refine Kd.C_drew ?_))); (case side2 => exact HC0.out); rintro e w5 ⟨rfl, hb⟩; refine ⟨_, rfl, ?_⟩; have n0_ := Aside0.mk (below_step (by repeat (first | (with_reducible first | exact HB.out | apply below_alloc | apply pw_below_drewN | apply below_drew1) | exact HB.out)) hb); clear HB; have HB := n0_; clear n0_; (try clear hb); (try clear hb2); (try clear hk); (try clear hi)))
   go_ret
   exact ⟨by first | rfl | (simp [errW_none, errW_some] <;> rfl) | (simp [*, errW_none, errW_some] <;> rfl), by repeat (first | (with_reducible first | exact HB.out | apply below_alloc | apply pw_below_drewN | apply below_drew1) | exact HB.out)⟩
end Go.Proofs.Ytfopeenjpdaacaa.PC
end
section
set_option linter.unusedVariables false
set_option linter.unusedSimpArgs false
/- The queue of the program: numbers that wait, behind a pointer: contracts of put and take. -/
namespace Go.Proofs.Ytfopeenjpdaacaa.PC
open Go.RowKit Go.Proofs.YtfopeenjpdaacaaW.PrintWords Go.Proofs.YtfopeenjpdaacaaW.PrintLast Go.Proofs.YtfopeenjpdaacaaW.PrintMore
/-- the numbers that wait: the variable lies in block B, its numbers in a block beyond it -/
def QVar (W : World) (B : Nat) (xs : List Int) : Prop := ∃ v, W.heap[B]? = some (.cells #[v] 69 (0, 0)) ∧ (Kd.int .i64).Q 3 W (B + 1) (fun _ => True) v xs
theorem q_far {W : World} {B : Nat} {v : Value} {xs : List Int} (h : (Kd.int .i64).Q 3 W (B + 1) (fun _ => True) v xs) (u : Value) : (Kd.int .i64).Q 3 (W.setCell ⟨B, 0, none⟩ u) (B + 1) (fun _ => True) v xs :=
  Kd.Q_mono (Kd.Q_far (ok := fun k => B + 1 ≤ k) (p := ⟨B, 0, none⟩) (Kd.Q_mono (Kd.Q_bound h) (fun k hk => hk.2.1)) (fun k hk => (by omega : k ≠ B)) u) (fun _ _ => trivial)
theorem info3q : (Try.prog.info? 3).map (fun i => (i.zero, i.size, i.bytes)) = some (some (.int .i64 0), 1, 8) := by kernel_rfl
theorem hset {w : World} {p i : Nat} {cs : Array Value} {t : TypeId} {fr : Nat × Nat} (h : w.heap[p]? = some (.cells cs t fr)) (v : Value) : (w.setCell ⟨p, i, none⟩ v).heap[p]? = some (.cells (cs.setIfInBounds i v) t fr) := by
  show (w.heap.modify p _)[p]? = _
  rw [Array.getElem?_modify, if_pos rfl, h]
  rfl
set_option maxHeartbeats 400000 in
theorem put_walk (B : Nat) (x : Int) (xs : List Int) (w : World) (h : QVar w B xs) (hl : xs.length ≤ 1000) :
    Calls Try.prog 60 #[.pointer (some ⟨B, 0, none⟩), .int .i64 x] w fun e w' => e = .returned (.tuple #[]) ∧ QVar w' B (xs ++ [x]) ∧ Below B w w' := by
  obtain ⟨v, hB, hQ⟩ := h
  have hc : w.cell? ⟨B, 0, none⟩ = some v := by simp [World.cell?, hB]
  have hBl : B < w.heap.size := (Array.getElem?_eq_some_iff.1 hB).1
  have HB := Lib.hid hB
  have HQ := Lib.hid hQ
  clear hB hQ
  go_enter Try.func60, Try.ntmps60
  go_wp2_with (first | (at_builtin; refine Kd.Q_append (w0 := w) (Kd.int .i64) (B + 1) rfl (.tmp 7) (.tmp 9) 69 3 (.int .i64 0) 8 rfl Try.underlying69 info3q rfl (by decide) (by decide) v xs x [.int .i64 x] (fun _ => True) (fun _ => False) rfl rfl rfl (fun _ hk => hk.elim) (fun _ _ => trivial) HQ.out (Below.refl _ _) (by omega) (by omega) ?_; intro v1 w1 hq1 hb1 hg1 _; obtain ⟨A1, c1, rfl, _⟩ := Kd.Q_slice hq1; have hB1 := (hb1.block B (by omega)).trans HB.out; have hc1 : w1.cell? ⟨B, 0, none⟩ = some v := (by simp [World.cell?, hB1]); have hf1 : w1.frozen? ⟨B, 0, none⟩ = false := (by simp [World.frozen?, hB1]); have HB1 := Lib.hid hB1; have HQ1 := Lib.hid hq1; have HBL := Lib.hid hb1; clear hB1 hq1 hb1 hg1))
  go_end0
  exact ⟨rfl, ⟨_, hset HB1.out _, q_far (by simpa using HQ1.out) _⟩, (HBL.out.mono (Nat.le_succ B)).setCell (p := ⟨B, 0, none⟩) (Nat.le_refl _) _⟩
set_option maxHeartbeats 400000 in
theorem take_walk (B : Nat) (y : Int) (ys : List Int) (w : World) (h : QVar w B (y :: ys)) :
    Calls Try.prog 61 #[.pointer (some ⟨B, 0, none⟩)] w fun e w' => e = .returned (.tuple #[.int .i64 y, .bool true]) ∧ QVar w' B ys ∧ Below B w w' := by
  obtain ⟨v, hB, hQ⟩ := h
  obtain ⟨g, o, cap, e, hg, hgl, _⟩ := Kd.Q_form hQ (by simp)
  subst e
  have hc : w.cell? ⟨B, 0, none⟩ = some (.slice (some ⟨g, o, none⟩) (y :: ys).length cap) := by simp [World.cell?, hB]
  have hf : w.frozen? ⟨B, 0, none⟩ = false := by simp [World.frozen?, hB]
  have hx := (Kd.Q_cell 0 hQ 0 (by omega) (by simp)).1
  have hx' : w.cell? ⟨g, o, none⟩ = some (.int .i64 y) := hx
  have hne : g ≠ B := by omega
  obtain ⟨n, hn⟩ : ∃ n, (y :: ys).length = n := ⟨_, rfl⟩
  have hn1 : n = ys.length + 1 := by rw [← hn]; rfl
  obtain ⟨i3, hi3, hz3⟩ := Option.map_eq_some_iff.1 info3q
  simp only [Prod.mk.injEq] at hz3
  have hdrop := Kd.Q_drop (k := 1) hQ (by simp)
  rw [hn] at hc hdrop
  have hcut := cut_from (P := Try.prog) 69 3 .i64 Try.underlying69 hi3 1 hz3.2.1 (some ⟨g, o, none⟩) n cap 1 (by omega) (by omega)
  have hx1 : (1 : Int).toNat = 1 := rfl
  rw [hx1] at hcut
  obtain ⟨A', hA'⟩ : ∃ A', (if cap = 1 then some (⟨g, o, none⟩ : Addr) else (some (⟨g, o, none⟩ : Addr)).map (·.add (1 * 1))) = A' := ⟨_, rfl⟩
  rw [hA'] at hcut
  have hA'' : (if cap = 1 then some (⟨g, o, none⟩ : Addr) else (some (⟨g, o, none⟩ : Addr)).map (·.add (1 * (Kd.int .i64).sz))) = A' := hA'
  rw [hA''] at hdrop
  have HD := Lib.hid hdrop
  have HB := Lib.hid hB
  have d1 : ((n : Int) == 0) = false := beq_eq_false_iff_ne.2 (by omega)
  have hn0 : (0 : Int) < (n : Int) := by omega
  have hn2 : (1 : Int) ≤ (n : Int) := by omega
  clear hQ hx hdrop hB hA' hA'' hn hn1 hz3
  go_enter Try.func61, Try.ntmps61
  go_wp2
  go_ret2
  refine ⟨rfl, ⟨_, hset HB.out _, q_far HD.out _⟩, (Below.refl _ _).setCell (p := ⟨B, 0, none⟩) (Nat.le_refl _) _⟩
set_option maxHeartbeats 400000 in
theorem take_none (B : Nat) (w : World) (h : QVar w B []) :
    Calls Try.prog 61 #[.pointer (some ⟨B, 0, none⟩)] w fun e w' => e = .returned (.tuple #[.int .i64 0, .bool false]) ∧ w = w' := by
  obtain ⟨v, hB, hQ⟩ := h
  obtain ⟨A, c, e, _⟩ := Kd.Q_slice hQ
  subst e
  have hc : w.cell? ⟨B, 0, none⟩ = some (.slice A 0 c) := by simp [World.cell?, hB]
  clear hB hQ
  go_enter Try.func61, Try.ntmps61
  go_wp2
  go_ret2
  exact ⟨rfl, rfl⟩
end Go.Proofs.Ytfopeenjpdaacaa.PC
end
section
set_option linter.unusedVariables false
set_option linter.unusedSimpArgs false
/- The tree of wishes and the wishes of a tree, as the program makes them: plain. -/
namespace Go.Proofs.Ytfopeenjpdaacaa.PC
/-- one chair's customers: they come to the end of the queue, their parent is the node -/
def chairs_Tree.row (k node : Int) : List Int → Nat → List Int → List Int → List Int × List Int
  | [], _, out, q => (out, q)
  | w :: ws, c, out, q => if w = k then chairs_Tree.row k node ws (c + 1) (out.set c node) (q ++ [(c : Int) + 1]) else chairs_Tree.row k node ws (c + 1) out q
def chairs_Tree.go (l0 : List Int) : Nat → Int → List Int → List Int → Option (List Int)
  | 0, _, _, _ => none
  | _ + 1, _, out, [] => some out
  | n + 1, k, out, node :: q => chairs_Tree.go l0 n (k + 1) (chairs_Tree.row k node l0 0 out q).1 (chairs_Tree.row k node l0 0 out q).2
/-- one node's children: they come to the end of the queue, they wish the chair -/
def chairs_Wishes.go (l0 : List Int) : Nat → Int → List Int → List Int → Option (List Int)
  | 0, _, _, _ => none
  | _ + 1, _, out, [] => some out
  | n + 1, k, out, node :: q => chairs_Wishes.go l0 n (k + 1) (chairs_Tree.row node k l0 0 out q).1 (chairs_Tree.row node k l0 0 out q).2
end Go.Proofs.Ytfopeenjpdaacaa.PC
end
section
set_option linter.unusedVariables false
set_option linter.unusedSimpArgs false
/- Tree: the walk behind its tests: a queue of nodes, the chairs one after the other. -/
namespace Go.Proofs.Ytfopeenjpdaacaa.PC
open Go.RowKit Go.Proofs.YtfopeenjpdaacaaW.PrintWords Go.Proofs.YtfopeenjpdaacaaW.PrintLast Go.Proofs.YtfopeenjpdaacaaW.PrintMore
/-- the state of the walk: what lay below the list that is made is as it was; the list; the queue in the block behind it -/
structure TSt (Wm : World) (B : Nat) (out q : List Int) (W : World) : Prop where
  below : Below Wm.heap.size Wm W
  hB : B = Wm.heap.size + 1
  out : W.heap[Wm.heap.size]? = some (.cells (nums .i64 out).toArray 3 (0, 0))
  q : QVar W B q
theorem QVar.below {W W' : World} {B : Nat} {xs : List Int} (h : QVar W B xs) (hb : ∀ k, B ≤ k → k < W.heap.size → W'.heap[k]? = W.heap[k]?) : QVar W' B xs := by
  obtain ⟨v, h1, h2⟩ := h
  refine ⟨v, (hb B (Nat.le_refl _) (Array.getElem?_eq_some_iff.1 h1).1).trans h1, ?_⟩
  exact Kd.Q_mono (Kd.Q_step (ok := fun k => B + 1 ≤ k) (Kd.Q_mono (Kd.Q_bound h2) (fun k hk => hk.2.1)) (fun k hk hl => hb k (by omega) hl)) (fun _ _ => trivial)
theorem TSt.moved {Wm W W' : World} {B : Nat} {out q q' : List Int} (h : TSt Wm B out q W) (hb : Below B W W') (hq : QVar W' B q') : TSt Wm B out q' W' := by
  have e := h.hB
  exact ⟨h.below.trans (hb.mono (by omega)), e, (hb.block _ (by omega)).trans h.out, hq⟩
theorem TSt.store {Wm W : World} {B : Nat} {out q : List Int} (h : TSt Wm B out q W) (i : Nat) (x : Int) : TSt Wm B (out.set i x) q (W.setCell ⟨Wm.heap.size, i, none⟩ (.int .i64 x)) := by
  have e := h.hB
  refine ⟨h.below.setCell (p := ⟨Wm.heap.size, i, none⟩) (Nat.le_refl _) _, e, ?_, h.q.below fun k hk _ => Below.heap_setCell W _ _ k (by show k ≠ Wm.heap.size; omega)⟩
  rw [hset h.out]
  simp [nums, List.map_set]
theorem TSt.cell {Wm W : World} {B : Nat} {out q : List Int} (h : TSt Wm B out q W) (i : Nat) (hi : i < out.length) : ∃ u, W.cell? ⟨Wm.heap.size, i, none⟩ = some u := ⟨.int .i64 (out[i]), by simp [World.cell?, h.out, nums, hi]⟩
theorem TSt.frozen {Wm W : World} {B : Nat} {out q : List Int} (h : TSt Wm B out q W) (i : Nat) : W.frozen? ⟨Wm.heap.size, i, none⟩ = false := by simp [World.frozen?, h.out]
theorem TSt.start (Wm : World) (n : Nat) (_hn : n ≤ 1000) : TSt Wm (Wm.heap.size + 1) (List.replicate n 0) [] ((Wm.alloc (.cells (madeCells #[.int .i64 0] n) 3)).alloc (.cells #[.slice none 0 0] 69)) := by
  obtain ⟨W1, hW1⟩ : ∃ W1, Wm.alloc (.cells (madeCells #[.int .i64 0] n) 3) = W1 := ⟨_, rfl⟩
  have hs1 : W1.heap.size = Wm.heap.size + 1 := by rw [← hW1]; simp
  have hb1 : Below Wm.heap.size Wm W1 := by rw [← hW1]; exact (Below.refl _ _).alloc (Nat.le_refl _) _
  have ho : W1.heap[Wm.heap.size]? = some (.cells (nums .i64 (List.replicate n 0)).toArray 3 (0, 0)) := by
    rw [← hW1, heap_alloc_new]
    congr 2
    apply Array.ext
    · simp [madeCells, nums]
    · intro i h1 h2
      simp [madeCells, nums, Nat.mod_one]
  rw [hW1]
  refine ⟨hb1.alloc (by omega) _, rfl, (Below.heap_alloc _ _ _ (by omega)).trans ho, ⟨_, ?_, Kd.Q_nil _ _ _ _ _⟩⟩
  rw [← hs1]
  exact heap_alloc_new _ _
theorem R_of_ints {W : World} {g base : Nat} {xs : List Int} (h : W.heap[g]? = some (.cells (nums .i64 xs).toArray 3 (0, 0))) (hb : base ≤ g) (hl : xs.length ≤ 1000000) : Kd.R (Kd.int .i64) 3 W base (fun _ => True) (.slice (some ⟨g, 0, none⟩) xs.length xs.length) xs :=
  Kd.R_of_own ⟨by simp [encs], .inr ⟨g, xs.length, _, rfl, hb, h, Nat.le_refl _, by unfold maxLen; omega, by simp [nums], by simp [encs, nums, List.take_of_length_le]⟩⟩ (fun _ _ => trivial)
theorem row_len (k node : Int) (l : List Int) : ∀ (c : Nat) (out q : List Int), (chairs_Tree.row k node l c out q).1.length = out.length ∧ (chairs_Tree.row k node l c out q).2.length ≤ q.length + l.length := by
  induction l with
  | nil => intro c out q; simp [chairs_Tree.row]
  | cons w l ih =>
    intro c out q
    simp only [chairs_Tree.row]
    split
    · have := ih (c + 1) (out.set c node) (q ++ [(c : Int) + 1])
      simp at this ⊢
      omega
    · have := ih (c + 1) out q
      simp at this ⊢
      omega
set_option maxRecDepth 100000 in
set_option maxHeartbeats 2000000 in
theorem tree_walk (k : Nat) (A0 : Option Addr) (c0 : Nat) (l0 : List Int) (w : World) (hr0 : Kd.C (Kd.int .i64) w A0 l0.length l0) (hc0 : l0.length ≤ c0) (h1 : chairs_same.f l0 = some 0) (r : List Int) (h2 : chairs_sit.f k (l0.length : Int) l0 = some (r, true)) (hl1 : 1 ≤ l0.length) (hl : l0.length ≤ 30)
    (res : List Int) (hgo : chairs_Tree.go l0 (l0.length + 2) 0 (List.replicate l0.length 0) [0] = some res) :
    Calls Try.prog 38 #[.slice A0 l0.length c0] w fun e w' => ∃ v0_ : Value, e = .returned (.tuple #[v0_, .int .i64 0]) ∧ Kd.R (Kd.int .i64) 3 w' w.heap.size (fun _ => True) v0_ res ∧ Below w.heap.size w w' := by
  have HR := Lib.hid hr0
  have HC := Lib.hid hc0
  have H1 := Lib.hid h1
  have H2 := Lib.hid h2
  have HG := Lib.hid hgo
  obtain ⟨n, hn⟩ : ∃ n, l0.length = n := ⟨_, rfl⟩
  have hcall2 := chairs_sit.calls k (l0.length : Int) A0 c0 l0 r true
  have hcall1 := chairs_same.calls A0 c0 l0 0
  rw [hn] at hcall1 hcall2 hl1 hl hgo ⊢
  have HG := Lib.hid hgo
  have HC1 := Lib.hid hcall1
  have HC2 := Lib.hid hcall2
  rw [hn] at hr0 hc0 h2
  have HR := Lib.hid hr0
  have HC := Lib.hid hc0
  have H2 := Lib.hid h2
  have HN := Lib.hid hn
  have hmk := @print_make Try.prog 22 3 .i64 8 Try.underlying22 info3q (by decide) n (by omega)
  clear hr0 hc0 h1 h2 hgo hn hcall1 hcall2
  go_enter Try.func38, Try.ntmps38
  go_wp2_with (first | (go_at_call 59; refine (HC1.out _ HR.out HC.out H1.out).mono ?_; rintro e wa ⟨rfl, hba⟩; have HBA := Lib.hid hba; clear hba) | (go_at_call 54; refine (HC2.out _ (Kd.C_below HR.out HBA.out) HC.out H2.out).mono ?_; rintro e wb ⟨v0, rfl, _, hbb⟩; have HBB := Lib.hid hbb; clear hbb) | (go_at_call 60; refine (put_walk (wb.heap.size + 1) 0 [] _ (TSt.start wb n (by omega)).q (by simp)).mono ?_; rintro e wc ⟨rfl, hqc, hbc⟩; have HTC := Lib.hid ((TSt.start wb n (by omega)).moved hbc hqc); clear hqc hbc))
  clear hmk
  go_loopw [9] (fun t wr => ∃ (j : Nat) (out q : List Int), j ≤ n + 1 ∧ t = .int .i64 (j : Int) ∧ out.length = n ∧ q.length ≤ 31 * j + 1 ∧ TSt wb (wb.heap.size + 1) out q wr ∧ Hid (chairs_Tree.go l0 (n + 2 - j) (j : Int) out q = some res)) (fun t _ => n + 2 - (intOf t).toNat)
  case atStart => exact ⟨0, _, _, by omega, rfl, by simp, by simp, HTC.out, HG⟩
  case round =>
    obtain ⟨j, out, q, hj, rfl, hol, hql, hT, hG⟩ := hrel
    have HT := Lib.hid hT
    have HOL := Lib.hid hol
    clear hT hol
    obtain ⟨wo, rfl⟩ : ∃ wo : World, wo = wr := ⟨_, rfl⟩
    cases q with
    | nil =>
      have hres : out = res := by
        have h := hG.out
        rw [show n + 2 - j = (n + 1 - j) + 1 by omega] at h
        simpa [chairs_Tree.go] using h
      subst hres
      go_wp2_with (go_at_call 61; refine (take_none _ _ HT.out.q).mono ?_; rintro e w' ⟨rfl, rfl⟩)
      go_ret2
      have hR := R_of_ints (base := w.heap.size) HT.out.out (by have := HBA.out.size; have := HBB.out.size; omega) (by rw [HOL.out]; omega)
      rw [HOL.out] at hR
      exact ⟨_, rfl, hR, (HBA.out.trans (HBB.out.mono HBA.out.size)).trans (HT.out.below.mono (by have := HBA.out.size; have := HBB.out.size; omega))⟩
    | cons node q =>
      have hjn : j ≤ n := by
        refine Nat.le_of_not_lt fun hlt => ?_
        have h := hG.out
        rw [show n + 2 - j = 0 + 1 by omega] at h
        simp [chairs_Tree.go] at h
      obtain ⟨outF, hoF⟩ : ∃ o, (chairs_Tree.row (j : Int) node l0 0 out q).1 = o := ⟨_, rfl⟩
      obtain ⟨qF, hqF⟩ : ∃ o, (chairs_Tree.row (j : Int) node l0 0 out q).2 = o := ⟨_, rfl⟩
      have hrow : chairs_Tree.row (j : Int) node (l0.drop 0) 0 out q = (outF, qF) := by rw [← hoF, ← hqF]; rfl
      have hg2 : chairs_Tree.go l0 (n + 2 - (j + 1)) ((j + 1 : Nat) : Int) outF qF = some res := by
        have h := hG.out
        rw [show n + 2 - j = (n + 2 - (j + 1)) + 1 by omega] at h
        simp only [chairs_Tree.go] at h
        rw [hoF, hqF] at h
        exact h
      have HG2 := Lib.hid hg2
      have HROW := Lib.hid hrow
      have hql2 : q.length ≤ 31 * j := by simpa using hql
      clear hoF hqF hg2 hrow hG hql
      go_wp2_with (go_at_call 61; refine (take_walk _ node q _ HT.out.q).mono ?_; rintro e w' ⟨rfl, hq', hb'⟩; have HT' := Lib.hid (HT.out.moved hb' hq'); clear hq' hb')
      go_loopw [43] (fun t w3 => ∃ (c : Nat) (out q : List Int), c ≤ n ∧ t = .int .i64 (c : Int) ∧ out.length = n ∧ q.length ≤ 31 * j + c ∧ TSt wb (wb.heap.size + 1) out q w3 ∧ Hid (chairs_Tree.row (j : Int) node (l0.drop c) c out q = (outF, qF))) (fun t _ => n - (intOf t).toNat)
      case atStart => exact ⟨0, _, _, by omega, rfl, HOL.out, by omega, HT'.out, HROW⟩
      case round =>
        obtain ⟨c, out2, q2, hc, rfl, hol2, hql3, hT2, hrow2⟩ := hrel
        have HT2 := Lib.hid hT2
        have HOL2 := Lib.hid hol2
        clear hT2 hol2 HROW
        obtain ⟨wp, rfl⟩ : ∃ wp : World, wp = wr := ⟨_, rfl⟩
        by_cases hlt : c < n
        · have d1 : decide ((c : Int) < (n : Int)) = true := decide_eq_true (by omega)
          have hcl : c < l0.length := by have := HN.out; omega
          obtain ⟨ad, e, hx⟩ := Kd.at_int (Kd.C_below (Kd.C_below (Kd.C_below HR.out HBA.out) HBB.out) HT2.out.below) (c : Int) (by omega) (by omega)
          subst e
          rw [Int.toNat_natCast] at hx
          obtain ⟨x, hxv⟩ : ∃ x, rd l0 (c : Int) = x := ⟨_, rfl⟩
          rw [hxv] at hx
          have hrow3 : (if x = (j : Int) then chairs_Tree.row (j : Int) node (l0.drop (c + 1)) (c + 1) (out2.set c node) (q2 ++ [(c : Int) + 1]) else chairs_Tree.row (j : Int) node (l0.drop (c + 1)) (c + 1) out2 q2) = (outF, qF) := by
            have h := hrow2.out
            rw [List.drop_eq_getElem_cons hcl] at h
            have e2 : l0[c] = x := by rw [← hxv]; simp [rd, List.getD_eq_getElem?_getD, hcl]
            rw [e2] at h
            simpa only [chairs_Tree.row] using h
          clear hxv hrow2
          by_cases hxj : x = (j : Int)
          · rw [if_pos hxj] at hrow3
            have d2 : (x == (j : Int)) = true := beq_iff_eq.2 hxj
            obtain ⟨u, hu⟩ := HT2.out.cell c (by rw [HOL2.out]; exact hlt)
            have hfu := HT2.out.frozen c
            have HROW3 := Lib.hid hrow3
            clear hrow3 hxj
            go_wp2_with (go_at_call 60; refine (put_walk (wb.heap.size + 1) ((c : Int) + 1) q2 _ (HT2.out.store c node).q (by omega)).mono ?_; rintro e w' ⟨rfl, hq', hb'⟩; have HT3 := Lib.hid ((HT2.out.store c node).moved hb' hq'); clear hq' hb')
            go_roundw
            case rel => exact ⟨c + 1, _, _, by omega, by go_num, by rw [List.length_set]; exact HOL2.out, by simp; omega, HT3.out, HROW3⟩
            case measure => simp [intOf]; omega
          · rw [if_neg hxj] at hrow3
            have d2 : (x == (j : Int)) = false := beq_eq_false_iff_ne.2 hxj
            have HROW3 := Lib.hid hrow3
            clear hrow3 hxj
            go_wp2
            go_roundw
            case rel => exact ⟨c + 1, _, _, by omega, by go_num, HOL2.out, by omega, HT2.out, HROW3⟩
            case measure => simp [intOf]; omega
        · obtain rfl : c = n := by omega
          have d1 : decide ((c : Int) < (c : Int)) = false := decide_eq_false (by omega)
          have h := hrow2.out
          rw [List.drop_of_length_le (by rw [HN.out]; exact Nat.le_refl _)] at h
          simp only [chairs_Tree.row, Prod.mk.injEq] at h
          obtain ⟨rfl, rfl⟩ := h
          clear hrow2
          go_wp2
          go_roundw
          case rel => exact ⟨j + 1, _, _, by omega, by go_num, HOL2.out, by omega, HT2.out, HG2⟩
          case measure => simp [intOf]; omega
set_option maxHeartbeats 400000 in
theorem tree_err1 (A0 : Option Addr) (c0 : Nat) (l0 : List Int) (w : World) (hr0 : Kd.C (Kd.int .i64) w A0 l0.length l0) (hc0 : l0.length ≤ c0) (e0 : Int) (h1 : chairs_same.f l0 = some e0) (he : e0 ≠ 0) :
    Calls Try.prog 38 #[.slice A0 l0.length c0] w fun e w' => e = .returned (.tuple #[.slice none 0 0, .int .i64 e0]) ∧ Below w.heap.size w w' := by
  have HR := Lib.hid hr0
  have HC := Lib.hid hc0
  have H1 := Lib.hid h1
  have d1 : (e0 != 0) = true := bne_iff_ne.2 he
  clear hr0 hc0 h1 he
  go_enter Try.func38, Try.ntmps38
  go_wp2_with (go_at_call 59; refine (chairs_same.calls A0 c0 l0 e0 _ HR.out HC.out H1.out).mono ?_; rintro e wa ⟨rfl, hba⟩; have HBA := Lib.hid hba; clear hba)
  go_ret2
  exact ⟨rfl, HBA.out⟩
set_option maxHeartbeats 400000 in
theorem tree_err2 (k : Nat) (A0 : Option Addr) (c0 : Nat) (l0 : List Int) (w : World) (hr0 : Kd.C (Kd.int .i64) w A0 l0.length l0) (hc0 : l0.length ≤ c0) (h1 : chairs_same.f l0 = some 0) (r : List Int) (h2 : chairs_sit.f k (l0.length : Int) l0 = some (r, false)) :
    Calls Try.prog 38 #[.slice A0 l0.length c0] w fun e w' => e = .returned (.tuple #[.slice none 0 0, .int .i64 10]) ∧ Below w.heap.size w w' := by
  have HR := Lib.hid hr0
  have HC := Lib.hid hc0
  have H1 := Lib.hid h1
  have H2 := Lib.hid h2
  clear hr0 hc0 h1 h2
  go_enter Try.func38, Try.ntmps38
  go_wp2_with (first | (go_at_call 59; refine (chairs_same.calls A0 c0 l0 0 _ HR.out HC.out H1.out).mono ?_; rintro e wa ⟨rfl, hba⟩; have HBA := Lib.hid hba; clear hba) | (go_at_call 54; refine (chairs_sit.calls k (l0.length : Int) A0 c0 l0 r false _ (Kd.C_below HR.out HBA.out) HC.out H2.out).mono ?_; rintro e wb ⟨v0, rfl, _, hbb⟩; have HBB := Lib.hid hbb; clear hbb))
  go_ret2
  exact ⟨rfl, HBA.out.trans (HBB.out.mono HBA.out.size)⟩
end Go.Proofs.Ytfopeenjpdaacaa.PC
end
section
set_option linter.unusedVariables false
set_option linter.unusedSimpArgs false
namespace Go.Proofs.Ytfopeenjpdaacaa.PC
open Go.RowKit Go.Proofs.YtfopeenjpdaacaaW.PrintWords Go.Proofs.YtfopeenjpdaacaaW.PrintLast Go.Proofs.YtfopeenjpdaacaaW.PrintMore
attribute [local go_sem] max2_int min2_int max_two min_two max_three min_three max_four min_four   -- for this text's walks alone
set_option linter.unusedVariables false
set_option linter.unusedSimpArgs false
/-! ### chairs_Tree: function 38 -/
def chairs_Tree.f (k : Nat) (l0 : List Int) : Option (List Int × Int) :=
 (chairs_same.f l0).bind fun e => if e = 0 then ((chairs_sit.f k (l0.length : Int) l0).bind fun s => if s.2 = true then ((chairs_Tree.go l0 (l0.length + 2) 0 (List.replicate l0.length 0) [0]).bind fun out => some (out, 0)) else some ([], 10)) else some ([], e)
theorem chairs_Tree.mono : ∀ a0 k, LeO (chairs_Tree.f k a0) (chairs_Tree.f (k + 1) a0) := fun _ k =>
 LeO.bind (LeO.refl _) (fun _ => LeO.ite (LeO.bind (chairs_sit.mono _ _ k) (fun _ => LeO.refl _)) (LeO.refl _))
theorem chairs_Tree.calls (k : Nat) (A0 : Option Addr) (c0 : Nat) (l0 : List Int) (r1 : List Int) (r2 : Int) (w : World) (hr0 : Kd.C (Kd.int .i64) w A0 l0.length l0) (hc0 : l0.length ≤ c0) (h : chairs_Tree.f k l0 = some (r1, r2)) :
  Calls Try.prog 38 #[.slice A0 l0.length c0] w fun e w' => ∃ v0_ : Value, e = .returned (.tuple #[v0_, .int .i64 r2]) ∧ Kd.R (Kd.int .i64) 3 w' w.heap.size (fun _ => True) v0_ r1 ∧ Below w.heap.size w w' := by
 unfold chairs_Tree.f at h
 obtain ⟨e0, h1, h⟩ := Option.bind_eq_some_iff.1 h
 by_cases he : e0 = 0
 ·subst he
  simp only [if_true] at h
  obtain ⟨⟨s1, s2⟩, h2, h⟩ := Option.bind_eq_some_iff.1 h
  have hl : ¬ (l0.length : Int) = 0 ∧ ¬ (l0.length : Int) > 30 := by
   unfold chairs_same.f at h1
   by_cases c1 : (l0.length : Int) = 0
   ·rw [if_pos c1] at h1; cases h1
   ·rw [if_neg c1] at h1
    by_cases c2 : (l0.length : Int) > 30
    ·rw [if_pos c2] at h1; cases h1
    ·exact ⟨c1, c2⟩
  cases s2 with
  | true =>
   simp only [if_true] at h
   obtain ⟨res, h3, h⟩ := Option.bind_eq_some_iff.1 h
   have h' := Option.some.inj h
   obtain ⟨rfl, rfl⟩ := Prod.mk.inj h'
   exact tree_walk k A0 c0 l0 w hr0 hc0 h1 s1 h2 (by omega) (by omega) res h3
  | false =>
   rw [if_neg (by simp)] at h
   have h' := Option.some.inj h
   obtain ⟨rfl, rfl⟩ := Prod.mk.inj h'
   exact (tree_err2 k A0 c0 l0 w hr0 hc0 h1 s1 h2).mono fun e w' ⟨a, b⟩ => ⟨_, a, Kd.R_nil _ _ _ _ _, b⟩
 ·rw [if_neg he] at h
  have h' := Option.some.inj h
  obtain ⟨rfl, rfl⟩ := Prod.mk.inj h'
  exact (tree_err1 A0 c0 l0 w hr0 hc0 e0 h1 he).mono fun e w' ⟨a, b⟩ => ⟨_, a, Kd.R_nil _ _ _ _ _, b⟩
end Go.Proofs.Ytfopeenjpdaacaa.PC
end
section
set_option linter.unusedVariables false
set_option linter.unusedSimpArgs false
namespace Go.Proofs.Ytfopeenjpdaacaa.PC
open Go.RowKit Go.Proofs.YtfopeenjpdaacaaW.PrintWords Go.Proofs.YtfopeenjpdaacaaW.PrintLast Go.Proofs.YtfopeenjpdaacaaW.PrintMore
attribute [local go_sem] max2_int min2_int max_two min_two max_three min_three max_four min_four   -- for this text's walks alone
set_option linter.unusedVariables false
set_option linter.unusedSimpArgs false
/-! ### chairs_power: function 49 -/
def chairs_power.l0 : Nat → Int → Int → Int → Int → Option (Int)
 | 0, _, _, _, _ => none
 | k + 1, x0, x5, x6, x7 => if x7 < x6 then (chairs_power.l0 k x0 (wrap64 (x5 * x0)) x6 (wrap64 (x7 + 1))) else (some x5)
def chairs_power.f (k : Nat) (a0 : Int) (a1 : Int) : Option (Int) := chairs_power.l0 k a0 1 a1 0
theorem chairs_power.mono_l : ∀ k, (∀ y0 y1 y2 y3, LeO (chairs_power.l0 k y0 y1 y2 y3) (chairs_power.l0 (k + 1) y0 y1 y2 y3))
 | 0 => fun _ _ _ _ r h => by simp [chairs_power.l0] at h
 | k + 1 => by
  have ih0 := chairs_power.mono_l k
  ·intro y0 y1 y2 y3
   unfold chairs_power.l0
   repeat' first
   | (with_reducible exact ih0 _ _ _ _)
   | (with_reducible exact LeO.refl _)
   | (with_reducible exact LeO.none _)
   | (with_reducible refine LeO.ite ?_ ?_)
   | (with_reducible refine LeO.bind ?_ (fun _ => ?_))
   | exact ih0 _ _ _ _
   | exact LeO.none _
   | refine LeO.ite ?_ ?_
   | refine LeO.bind ?_ (fun _ => ?_)
theorem chairs_power.mono : ∀ a0 a1 k, LeO (chairs_power.f k a0 a1) (chairs_power.f (k + 1) a0 a1) := by
 intro a0 a1 k
 have ih0 := chairs_power.mono_l k
 unfold chairs_power.f
 repeat' first
   | (with_reducible exact ih0 _ _ _ _)
   | (with_reducible exact LeO.refl _)
   | (with_reducible exact LeO.none _)
   | (with_reducible refine LeO.ite ?_ ?_)
   | (with_reducible refine LeO.bind ?_ (fun _ => ?_))
   | exact ih0 _ _ _ _
   | exact LeO.none _
   | refine LeO.ite ?_ ?_
   | refine LeO.bind ?_ (fun _ => ?_)
set_option maxHeartbeats 8000000 in
set_option maxRecDepth 100000 in
theorem chairs_power.calls (k : Nat) (a0 : Int) (a1 : Int) (r : Int) (w : World) (h : chairs_power.f k a0 a1 = some r) :
  Calls Try.prog 49 #[.int .i64 a0, .int .i64 a1] w fun e w' => e = .returned (.int .i64 r) ∧ Drawn0 w w' := by
 have H : (chairs_power.l0 k a0 1 a1 0) = some r := h
 clear h
 have H' := Aside0.mk H
 clear H
 go_enter Try.func49, Try.ntmps49
 go_wp2
 go_loopg [5, 7] k (fun kq v5 v7 w' => ∃ (x5_1 : Int) (x7_1 : Int), v5 = .int .i64 x5_1 ∧ v7 = .int .i64 x7_1 ∧ Aside0 (chairs_power.l0 kq a0 x5_1 a1 x7_1 = some r) ∧ Aside0 (kq ≤ k) ∧ Drawn0 w w')
 case atStart => exact ⟨(1), (0), (by first | rfl | (simp; done) | (simp [*]; done)), (by first | rfl | (simp; done) | (simp [*]; done)), H', ⟨Nat.le_refl _⟩, by repeat (first | exact Drawn0.refl _ | apply Drawn0.step)⟩
 case round =>
  clear H'
  try clear p2
  obtain ⟨x5_1, x7_1, rfl, rfl, HA, HK1, ⟨m1, rfl⟩⟩ := hrel
  cases gk with
  | zero => exact absurd HA.out (by simp [chairs_power.l0])
  | succ k1 =>
   have H := HA.out
   clear HA
   simp only [chairs_power.l0] at H
   by_cases c3 : x7_1 < a1
   ·rw [if_pos c3] at H
    have c3b0 : decide (x7_1 < a1) = true := decide_eq_true c3
    clear c3
    have H' := Aside0.mk H
    clear H
    go_wp2
    go_roundg k1
    case measure => have := HK1.out; omega
    case rel => exact ⟨(wrap64 (x5_1 * a0)), (wrap64 (x7_1 + 1)), (by first | rfl | (simp; done) | (simp [*]; done)), (by first | rfl | (simp; done) | (simp [*]; done)), H', ⟨by have := HK1.out; omega⟩, by repeat (first | exact Drawn0.refl _ | apply Drawn0.step)⟩
   ·rw [if_neg c3] at H
    have c3b0 : decide (x7_1 < a1) = false := decide_eq_false c3
    clear c3
    obtain rfl := Option.some.inj H
    go_wp2
    go_ret
    exact ⟨by first | rfl | (simp; done) | (simp [*]; done), by repeat (first | exact Drawn0.refl _ | apply Drawn0.step)⟩
/-! ### chairs_Count: function 18 -/
def chairs_Count.j0 : Nat → Int → Int → Bool → Option (Int × Int)
 | 0, _, _, _ => none
 | k + 1, x0, x1, x6 => if x6 = true then (some (0, 2)) else (if x1 = 0 then (some (1, 0)) else ((chairs_power.f k (wrap64 (x0 + 1)) (wrap64 (x1 - 1))).bind fun t101 => (some (wrap64 ((wrap64 ((wrap64 (x0 + 1)) - x1)) * t101), 0))))
def chairs_Count.f (k : Nat) (a0 : Int) (a1 : Int) : Option (Int × Int) := if a0 < 1 then (chairs_Count.j0 k a0 a1 true) else (if a0 > 16 then (chairs_Count.j0 k a0 a1 true) else (if a1 < 0 then (chairs_Count.j0 k a0 a1 true) else (chairs_Count.j0 k a0 a1 (decide (a1 > a0)))))
theorem chairs_Count.mono_l : ∀ k, (∀ y0 y1 y2, LeO (chairs_Count.j0 k y0 y1 y2) (chairs_Count.j0 (k + 1) y0 y1 y2))
 | 0 => fun _ _ _ r h => by simp [chairs_Count.j0] at h
 | k + 1 => by
  have ih0 := chairs_Count.mono_l k
  ·intro y0 y1 y2
   unfold chairs_Count.j0
   repeat' first
   | (with_reducible exact ih0 _ _ _)
   | (with_reducible exact chairs_power.mono _ _ _)
   | (with_reducible exact LeO.refl _)
   | (with_reducible exact LeO.none _)
   | (with_reducible refine LeO.ite ?_ ?_)
   | (with_reducible refine LeO.bind ?_ (fun _ => ?_))
   | exact ih0 _ _ _
   | exact chairs_power.mono _ _ _
   | exact LeO.none _
   | refine LeO.ite ?_ ?_
   | refine LeO.bind ?_ (fun _ => ?_)
theorem chairs_Count.mono : ∀ a0 a1 k, LeO (chairs_Count.f k a0 a1) (chairs_Count.f (k + 1) a0 a1) := by
 intro a0 a1 k
 have ih0 := chairs_Count.mono_l k
 unfold chairs_Count.f
 repeat' first
   | (with_reducible exact ih0 _ _ _)
   | (with_reducible exact chairs_power.mono _ _ _)
   | (with_reducible exact LeO.refl _)
   | (with_reducible exact LeO.none _)
   | (with_reducible refine LeO.ite ?_ ?_)
   | (with_reducible refine LeO.bind ?_ (fun _ => ?_))
   | exact ih0 _ _ _
   | exact chairs_power.mono _ _ _
   | exact LeO.none _
   | refine LeO.ite ?_ ?_
   | refine LeO.bind ?_ (fun _ => ?_)
set_option maxHeartbeats 8000000 in
set_option maxRecDepth 100000 in
theorem chairs_Count.calls (k : Nat) (a0 : Int) (a1 : Int) (r1 : Int) (r2 : Int) (w : World) (h : chairs_Count.f k a0 a1 = some (r1, r2)) :
  Calls Try.prog 18 #[.int .i64 a0, .int .i64 a1] w fun e w' => e = .returned (.tuple #[.int .i64 r1, .int .i64 r2]) ∧ Drawn0 w w' := by
 have H : (if a0 < 1 then (chairs_Count.j0 k a0 a1 true) else (if a0 > 16 then (chairs_Count.j0 k a0 a1 true) else (if a1 < 0 then (chairs_Count.j0 k a0 a1 true) else (chairs_Count.j0 k a0 a1 (decide (a1 > a0)))))) = some (r1, r2) := h
 clear h
 have HC3 := Aside0.mk H
 clear H
 go_enter Try.func18, Try.ntmps18
 go_upto_region 1 with (fail)
 go_cut [6] (fun v6 wc => ∃ (kq : Nat) (x6_2 : Bool), v6 = .bool x6_2 ∧ Aside0 (chairs_Count.j0 kq a0 a1 x6_2 = some (r1, r2)) ∧ Aside0 (kq ≤ k) ∧ Drawn0 w wc)
 case first =>
  have H := HC3.out
  clear HC3
  by_cases c4 : a0 < 1
  ·rw [if_pos c4] at H
   have c4b0 : decide (a0 < 1) = true := decide_eq_true c4
   clear c4
   (first | rw [c4b0] | (simp only [i64_w, i32_w]; rw [c4b0]) | skip)
   have H' := Aside0.mk H
   clear H
   go_wp2
   go_meet
   case rel => exact ⟨_, (true), (by first | rfl | (simp; done) | (simp [*]; done)), H', ⟨by first | omega | exact Nat.le_refl _⟩, by repeat (first | exact Drawn0.refl _ | apply Drawn0.step)⟩
  ·rw [if_neg c4] at H
   have c4b0 : decide (a0 < 1) = false := decide_eq_false c4
   clear c4
   (first | rw [c4b0] | (simp only [i64_w, i32_w]; rw [c4b0]) | skip)
   by_cases c5 : a0 > 16
   ·rw [if_pos c5] at H
    have c5b0 : decide (16 < a0) = true := decide_eq_true c5
    clear c5
    have H' := Aside0.mk H
    clear H
    go_wp2
    go_meet
    case rel => exact ⟨_, (true), (by first | rfl | (simp; done) | (simp [*]; done)), H', ⟨by first | omega | exact Nat.le_refl _⟩, by repeat (first | exact Drawn0.refl _ | apply Drawn0.step)⟩
   ·rw [if_neg c5] at H
    have c5b0 : decide (16 < a0) = false := decide_eq_false c5
    clear c5
    by_cases c6 : a1 < 0
    ·rw [if_pos c6] at H
     have c6b0 : decide (a1 < 0) = true := decide_eq_true c6
     clear c6
     have H' := Aside0.mk H
     clear H
     go_wp2
     go_meet
     case rel => exact ⟨_, (true), (by first | rfl | (simp; done) | (simp [*]; done)), H', ⟨by first | omega | exact Nat.le_refl _⟩, by repeat (first | exact Drawn0.refl _ | apply Drawn0.step)⟩
    ·rw [if_neg c6] at H
     have c6b0 : decide (a1 < 0) = false := decide_eq_false c6
     clear c6
     have H' := Aside0.mk H
     clear H
     go_wp2
     go_meet
     case rel => exact ⟨_, (decide (a1 > a0)), (by first | rfl | (simp; done) | (simp [*]; done)), H', ⟨by first | omega | exact Nat.le_refl _⟩, by repeat (first | exact Drawn0.refl _ | apply Drawn0.step)⟩
 case rest =>
  clear HC3
  try clear c1
  try clear p2
  try clear c4
  try clear c4b0
  try clear c5
  try clear c5b0
  try clear c6
  try clear c6b0
  obtain ⟨kq, x6_2, rfl, HA, HJ2, ⟨mc2, rfl⟩⟩ := hcut
  cases kq with
  | zero => exact absurd HA.out (by simp [chairs_Count.j0])
  | succ kj2 =>
   have H := HA.out
   clear HA
   simp only [chairs_Count.j0] at H
   by_cases c7 : x6_2 = true
   ·subst c7
    have H1 : (some (0, 2)) = some (r1, r2) := by rw [if_pos rfl] at H; exact H
    clear H
    have H := H1
    clear H1
    simp only [Option.some.injEq, Prod.mk.injEq] at H
    obtain ⟨rfl, rfl⟩ := H
    go_wp2
    go_ret2
    exact ⟨by first | rfl | (simp; done) | (simp [*]; done), by repeat (first | exact Drawn0.refl _ | apply Drawn0.step)⟩
   ·replace c7 := Bool.eq_false_iff.mpr c7
    subst c7
    have H1 : (if a1 = 0 then (some (1, 0)) else ((chairs_power.f kj2 (wrap64 (a0 + 1)) (wrap64 (a1 - 1))).bind fun t101 => (some (wrap64 ((wrap64 ((wrap64 (a0 + 1)) - a1)) * t101), 0)))) = some (r1, r2) := by rw [if_neg (show ¬ (false = true) by decide)] at H; exact H
    clear H
    have H := H1
    clear H1
    by_cases c8 : a1 = 0
    ·rw [if_pos c8] at H
     have c8b0 : (a1 == 0) = true := beq_iff_eq.mpr c8
     have c8b1 : (a1 != 0) = false := bne_eq_false_iff_eq.mpr c8
     clear c8
     simp only [Option.some.injEq, Prod.mk.injEq] at H
     obtain ⟨rfl, rfl⟩ := H
     go_wp2
     go_ret2
     exact ⟨by first | rfl | (simp; done) | (simp [*]; done), by repeat (first | exact Drawn0.refl _ | apply Drawn0.step)⟩
    ·rw [if_neg c8] at H
     have c8b0 : (a1 == 0) = false := beq_eq_false_iff_ne.mpr c8
     have c8b1 : (a1 != 0) = true := bne_iff_ne.mpr c8
     replace H := Option.bind_eq_some_iff.mp H
     obtain ⟨t101, A90, H⟩ := H
     replace H : (some (wrap64 ((wrap64 ((wrap64 (a0 + 1)) - a1)) * t101), 0)) = some (r1, r2) := H
     have A9 := Aside0.mk A90
     clear A90
     simp only [Option.some.injEq, Prod.mk.injEq] at H
     obtain ⟨rfl, rfl⟩ := H
     go_wp2_with (first | ((with_reducible refine gate_callee (f := 49) rfl ?_); refine goesL_ (some 33) rfl rfl Try.func49 (by kernel_rfl) rfl #[.int .i64 (wrap64 (a0 + 1)), .int .i64 (wrap64 (a1 - 1))] rfl (by (try simp only [List.map_toArray, List.map_cons, List.map_nil]); first | done | rfl | (simp only [List.length_drop, List.length_take]; rfl)) ?_; (with_reducible refine (chairs_power.calls kj2 (wrap64 (a0 + 1)) (wrap64 (a1 - 1)) t101 _ A9.out).mono ?_); rintro e w' ⟨rfl, ⟨nd, rfl⟩⟩; refine ⟨_, rfl, ?_⟩))
     go_ret2
     exact ⟨by first | rfl | (simp; done) | (simp [*]; done), by repeat (first | exact Drawn0.refl _ | apply Drawn0.step)⟩
/-! ### chairs_Ways: function 20 -/
mutual
def chairs_Ways.l0 : Nat → List Int → Int → List Bool → List Int → Int → Int → Option (Int × Int)
 | 0, _, _, _, _, _, _ => none
 | k + 1, x0, x4, x5, x23, x24, x25 => if x25 < x24 then (if 0 ≤ x25 then (if x25 < (x23.length : Int) then (if (rd x23 x25) < 0 then (some (0, 2)) else (if (rd x23 x25) ≥ x4 then (some (0, 2)) else (if 0 ≤ (rd x23 x25) then (if (rd x23 x25) < (x5.length : Int) then (if rdOf false x5 (rd x23 x25) = true then (some (0, 2)) else (chairs_Ways.l0 k x0 x4 (x5.set ((rd x23 x25) : Int).toNat true) x23 x24 (wrap64 (x25 + 1)))) else (none)) else (none)))) else (none)) else (none)) else (chairs_Ways.l1 k x0 1 x0 (x0.length : Int) 0)
def chairs_Ways.l1 : Nat → List Int → Int → List Int → Int → Int → Option (Int × Int)
 | 0, _, _, _, _, _ => none
 | k + 1, x0, x8, x46, x47, x48 => if x48 < x47 then (if 0 ≤ x48 then (if x48 < (x46.length : Int) then (chairs_Ways.l2 k x0 x8 (rd x46 x48) 1 (wrap64 (x48 - 1)) x46 x47 x48) else (none)) else (none)) else (some (x8, 0))
def chairs_Ways.l2 : Nat → List Int → Int → Int → Int → Int → List Int → Int → Int → Option (Int × Int)
 | 0, _, _, _, _, _, _, _, _ => none
 | k + 1, x0, x8, x10, x11, x12, x46, x47, x48 => if x12 ≥ 0 then (if 0 ≤ x12 then (if x12 < (x0.length : Int) then (if (rd x0 x12) < x10 then (chairs_Ways.l2 k x0 x8 x10 (wrap64 (x11 + 1)) (wrap64 (x12 - 1)) x46 x47 x48) else (chairs_Ways.l1 k x0 (wrap64 (x8 * x11)) x46 x47 (wrap64 (x48 + 1)))) else (none)) else (none)) else (chairs_Ways.l1 k x0 (wrap64 (x8 * x11)) x46 x47 (wrap64 (x48 + 1)))
end
def chairs_Ways.f (k : Nat) (l0 : List Int) : Option (Int × Int) := if (l0.length : Int) > 16 then (some (0, 3)) else (if (l0.length : Int) = 0 then (some (0, 2)) else (if 0 ≤ (l0.length : Int) then (if ((l0.length : Int) : Int).toNat ≤ 281474976710656 then (chairs_Ways.l0 k l0 (l0.length : Int) (List.replicate ((l0.length : Int) : Int).toNat false) l0 (l0.length : Int) 0) else (none)) else (none)))
theorem chairs_Ways.mono_l : ∀ k, (∀ y0 y1 y2 y3 y4 y5, LeO (chairs_Ways.l0 k y0 y1 y2 y3 y4 y5) (chairs_Ways.l0 (k + 1) y0 y1 y2 y3 y4 y5)) ∧ (∀ y0 y1 y2 y3 y4, LeO (chairs_Ways.l1 k y0 y1 y2 y3 y4) (chairs_Ways.l1 (k + 1) y0 y1 y2 y3 y4)) ∧ (∀ y0 y1 y2 y3 y4 y5 y6 y7, LeO (chairs_Ways.l2 k y0 y1 y2 y3 y4 y5 y6 y7) (chairs_Ways.l2 (k + 1) y0 y1 y2 y3 y4 y5 y6 y7))
 | 0 => ⟨fun _ _ _ _ _ _ r h => by simp [chairs_Ways.l0] at h, fun _ _ _ _ _ r h => by simp [chairs_Ways.l1] at h, fun _ _ _ _ _ _ _ _ r h => by simp [chairs_Ways.l2] at h⟩
 | k + 1 => by
  obtain ⟨ih0, ih1, ih2⟩ := chairs_Ways.mono_l k
  refine ⟨?_, ?_, ?_⟩
  ·intro y0 y1 y2 y3 y4 y5
   unfold chairs_Ways.l0
   repeat' first
   | (with_reducible exact ih0 _ _ _ _ _ _)
   | (with_reducible exact ih1 _ _ _ _ _)
   | (with_reducible exact ih2 _ _ _ _ _ _ _ _)
   | (with_reducible exact LeO.refl _)
   | (with_reducible exact LeO.none _)
   | (with_reducible refine LeO.ite ?_ ?_)
   | (with_reducible refine LeO.bind ?_ (fun _ => ?_))
   | exact ih0 _ _ _ _ _ _
   | exact ih1 _ _ _ _ _
   | exact ih2 _ _ _ _ _ _ _ _
   | exact LeO.none _
   | refine LeO.ite ?_ ?_
   | refine LeO.bind ?_ (fun _ => ?_)
  ·intro y0 y1 y2 y3 y4
   unfold chairs_Ways.l1
   repeat' first
   | (with_reducible exact ih0 _ _ _ _ _ _)
   | (with_reducible exact ih1 _ _ _ _ _)
   | (with_reducible exact ih2 _ _ _ _ _ _ _ _)
   | (with_reducible exact LeO.refl _)
   | (with_reducible exact LeO.none _)
   | (with_reducible refine LeO.ite ?_ ?_)
   | (with_reducible refine LeO.bind ?_ (fun _ => ?_))
   | exact ih0 _ _ _ _ _ _
   | exact ih1 _ _ _ _ _
   | exact ih2 _ _ _ _ _ _ _ _
   | exact LeO.none _
   | refine LeO.ite ?_ ?_
   | refine LeO.bind ?_ (fun _ => ?_)
  ·intro y0 y1 y2 y3 y4 y5 y6 y7
   unfold chairs_Ways.l2
   repeat' first
   | (with_reducible exact ih0 _ _ _ _ _ _)
   | (with_reducible exact ih1 _ _ _ _ _)
   | (with_reducible exact ih2 _ _ _ _ _ _ _ _)
   | (with_reducible exact LeO.refl _)
   | (with_reducible exact LeO.none _)
   | (with_reducible refine LeO.ite ?_ ?_)
   | (with_reducible refine LeO.bind ?_ (fun _ => ?_))
   | exact ih0 _ _ _ _ _ _
   | exact ih1 _ _ _ _ _
   | exact ih2 _ _ _ _ _ _ _ _
   | exact LeO.none _
   | refine LeO.ite ?_ ?_
   | refine LeO.bind ?_ (fun _ => ?_)
theorem chairs_Ways.mono : ∀ a0 k, LeO (chairs_Ways.f k a0) (chairs_Ways.f (k + 1) a0) := by
 intro a0 k
 obtain ⟨ih0, ih1, ih2⟩ := chairs_Ways.mono_l k
 unfold chairs_Ways.f
 repeat' first
   | (with_reducible exact ih0 _ _ _ _ _ _)
   | (with_reducible exact ih1 _ _ _ _ _)
   | (with_reducible exact ih2 _ _ _ _ _ _ _ _)
   | (with_reducible exact LeO.refl _)
   | (with_reducible exact LeO.none _)
   | (with_reducible refine LeO.ite ?_ ?_)
   | (with_reducible refine LeO.bind ?_ (fun _ => ?_))
   | exact ih0 _ _ _ _ _ _
   | exact ih1 _ _ _ _ _
   | exact ih2 _ _ _ _ _ _ _ _
   | exact LeO.none _
   | refine LeO.ite ?_ ?_
   | refine LeO.bind ?_ (fun _ => ?_)
set_option maxHeartbeats 8000000 in
set_option maxRecDepth 100000 in
theorem chairs_Ways.calls (k : Nat) (A0 : Option Addr) (c0 : Nat) (l0 : List Int) (r1 : Int) (r2 : Int) (w : World) (hr0 : Kd.C (Kd.int .i64) w A0 l0.length l0) (hc0 : l0.length ≤ c0) (h : chairs_Ways.f k l0 = some (r1, r2)) :
  Calls Try.prog 20 #[.slice A0 l0.length c0] w fun e w' => e = .returned (.tuple #[.int .i64 r1, .int .i64 r2]) ∧ Below w.heap.size w w' := by
 have HR0 := Aside0.mk hr0
 have HC0 := Aside0.mk hc0
 clear hr0 hc0
 have HB := Aside0.mk (Below.refl w.heap.size w)
 have H : (if (l0.length : Int) > 16 then (some (0, 3)) else (if (l0.length : Int) = 0 then (some (0, 2)) else (if 0 ≤ (l0.length : Int) then (if ((l0.length : Int) : Int).toNat ≤ 281474976710656 then (chairs_Ways.l0 k l0 (l0.length : Int) (List.replicate ((l0.length : Int) : Int).toNat false) l0 (l0.length : Int) 0) else (none)) else (none)))) = some (r1, r2) := h
 clear h
 by_cases c2 : (l0.length : Int) > 16
 ·rw [if_pos c2] at H
  have c2b0 : decide (16 < (l0.length : Int)) = true := decide_eq_true c2
  have c2b1 : decide (16 < l0.length) = true := decide_eq_true (by omega)
  clear c2
  simp only [Option.some.injEq, Prod.mk.injEq] at H
  obtain ⟨rfl, rfl⟩ := H
  go_enter Try.func20, Try.ntmps20
  go_wp2
  go_ret2
  exact ⟨by first | rfl | (simp [errW_none, errW_some] <;> rfl) | (simp [*, errW_none, errW_some] <;> rfl), by repeat (first | (with_reducible first | exact HB.out | apply below_alloc | apply pw_below_drewN | apply below_drew1) | exact HB.out)⟩
 ·rw [if_neg c2] at H
  have c2b0 : decide (16 < (l0.length : Int)) = false := decide_eq_false c2
  have c2b1 : decide (16 < l0.length) = false := decide_eq_false (by omega)
  clear c2
  by_cases c3 : (l0.length : Int) = 0
  ·rw [if_pos c3] at H
   have c3b0 : ((l0.length : Int) == 0) = true := beq_iff_eq.mpr c3
   have c3b1 : ((l0.length : Int) != 0) = false := bne_eq_false_iff_eq.mpr c3
   clear c3
   simp only [Option.some.injEq, Prod.mk.injEq] at H
   obtain ⟨rfl, rfl⟩ := H
   go_enter Try.func20, Try.ntmps20
   go_wp2
   go_ret2
   exact ⟨by first | rfl | (simp [errW_none, errW_some] <;> rfl) | (simp [*, errW_none, errW_some] <;> rfl), by repeat (first | (with_reducible first | exact HB.out | apply below_alloc | apply pw_below_drewN | apply below_drew1) | exact HB.out)⟩
  ·rw [if_neg c3] at H
   have c3b0 : ((l0.length : Int) == 0) = false := beq_eq_false_iff_ne.mpr c3
   have c3b1 : ((l0.length : Int) != 0) = true := bne_iff_ne.mpr c3
   have c3b2 : ¬ (l0 = []) := fun h_ => c3 (by rw [h_]; rfl)
   by_cases c4 : 0 ≤ (l0.length : Int)
   ·rw [if_pos c4] at H
    have c4b0 := eq_true c4
    have c4b1 : decide (0 ≤ (l0.length : Int)) = true := decide_eq_true c4
    clear c4
    by_cases c5 : ((l0.length : Int) : Int).toNat ≤ 281474976710656
    ·rw [if_pos c5] at H
     have c5b0 := eq_true c5
     have c5b1 : decide (((l0.length : Int) : Int).toNat ≤ 281474976710656) = true := decide_eq_true c5
     clear c5
     obtain ⟨y102, hy102⟩ : ∃ y_ : List Bool, y_ = (List.replicate ((l0.length : Int) : Int).toNat false) := ⟨_, rfl⟩
     replace H : (chairs_Ways.l0 k l0 (l0.length : Int) y102 l0 (l0.length : Int) 0) = some (r1, r2) := by first | (rw [hy102]; with_reducible exact H) | (have H2_ := (Option.bind_some _ _).symm.trans H; rw [hy102]; with_reducible exact H2_) | (have H2_ := (Option.bind_some _ _).symm.trans H; with_reducible exact H2_) | with_reducible exact H | (rw [hy102]; exact H) | exact H
     have Ny102 := Aside0.mk hy102
     clear hy102
     have H' := Aside0.mk H
     clear H
     go_enter Try.func20, Try.ntmps20
     go_wp2_with (first | ((with_reducible refine gate_dst (N := 22) rfl ?_); refine Kd.R_make Kd.bool _ 4 rfl (N := 22) rfl 58 _ _ rfl (l0.length : Int) rfl rfl Try.underlying58 (.bool false) 1 info4 rfl (by decide) (by omega) false (ok := fun _ => True) (okp := fun _ => True) rfl (fun _ hk => hk) trivial (of_decide_eq_true (by first | (with_reducible assumption) | assumption)) (Nat.le_trans (Nat.mul_le_mul_right _ (of_decide_eq_true (by first | (with_reducible assumption) | assumption) : (l0.length : Int).toNat ≤ 281474976710656)) (by omega)) (Below.refl _ _) (Nat.le_refl _) ?_; intro v103 w6 ho7 hb hg_ hnew_; clear hg_ hnew_; (first | rw [← Ny102.out] at ho7 | (simp only [Int.reduceToNat] at ho7; rw [← Ny102.out] at ho7)); have n0_ := Aside0.mk (Kd.R_lower ho7 (below_size (by repeat (first | (with_reducible first | exact HB.out | apply below_alloc | apply pw_below_drewN | apply below_drew1) | exact HB.out)))); have n1_ := Aside0.mk (below_step (by repeat (first | (with_reducible first | exact HB.out | apply below_alloc | apply pw_below_drewN | apply below_drew1) | exact HB.out)) hb); clear HB; have HO104 := n0_; have HB := n1_; clear n0_ n1_; clear hb ho7))
     go_loopg [25] k (fun kq v25 w' => ∃ (x5_1 : List Bool) (x25_1 : Int), v25 = .int .i64 x25_1 ∧ Aside0 (chairs_Ways.l0 kq l0 (l0.length : Int) x5_1 l0 (l0.length : Int) x25_1 = some (r1, r2)) ∧ Aside0 (kq ≤ k) ∧ Aside0 (Kd.R Kd.bool 4 w' w.heap.size (fun _ => True) v103 x5_1) ∧ Aside0 (Below w.heap.size w w'))
     case atStart => exact ⟨(y102), (0), (by first | rfl | (simp; done) | (simp [*]; done)), H', ⟨Nat.le_refl _⟩, ⟨by (with_reducible repeat (first | apply Kd.R_alloc | apply Kd.R_drewN | apply Kd.R_drew)); exact HO104.out⟩, ⟨by repeat (first | (with_reducible first | exact HB.out | apply below_alloc | apply pw_below_drewN | apply below_drew1) | exact HB.out)⟩⟩
     case round =>
      clear H'
      try clear c2
      try clear c2b0
      try clear c2b1
      try clear p2
      try clear c3
      try clear c3b0
      try clear c3b1
      try clear c3b2
      try clear c4
      try clear c4b0
      try clear c4b1
      try clear c5
      try clear c5b0
      try clear c5b1
      obtain ⟨x5_1, x25_1, rfl, HA, HK1, HO_5, HB⟩ := hrel
      cases gk with
      | zero => exact absurd HA.out (by simp [chairs_Ways.l0])
      | succ k1 =>
       have H := HA.out
       clear HA
       simp only [chairs_Ways.l0] at H
       by_cases c8 : x25_1 < (l0.length : Int)
       ·rw [if_pos c8] at H
        have c8b0 : decide (x25_1 < (l0.length : Int)) = true := decide_eq_true c8
        clear c8
        by_cases c9 : 0 ≤ x25_1
        ·rw [if_pos c9] at H
         have c9b0 : decide (0 ≤ x25_1) = true := decide_eq_true c9
         clear c9
         by_cases c10 : x25_1 < (l0.length : Int)
         ·rw [if_pos c10] at H
          have c10b0 : decide (x25_1 < (l0.length : Int)) = true := decide_eq_true c10
          clear c10
          by_cases c11 : (rd l0 x25_1) < 0
          ·rw [if_pos c11] at H
           have c11b0 : decide ((rd l0 x25_1) < 0) = true := decide_eq_true c11
           clear c11
           simp only [Option.some.injEq, Prod.mk.injEq] at H
           obtain ⟨rfl, rfl⟩ := H
           have p105 : 0 ≤ (x25_1 : Int) := of_decide_eq_true (by first | (with_reducible assumption) | assumption)
           have q105 : x25_1 < (l0.length : Int) := of_decide_eq_true (by first | (with_reducible assumption) | assumption)
           obtain ⟨ad105, e105, hx105_0⟩ := Kd.at_int HR0.out x25_1 p105 q105
           cases e105
           replace hx105_0 := (HB.out.cell (World.block_lt_of_cell? w _ hx105_0)).trans hx105_0
           replace p105 := eq_true p105
           replace q105 := eq_true q105
           go_wp2
           go_ret2
           exact ⟨by first | rfl | (simp [errW_none, errW_some] <;> rfl) | (simp [*, errW_none, errW_some] <;> rfl), by repeat (first | (with_reducible first | exact HB.out | apply below_alloc | apply pw_below_drewN | apply below_drew1) | exact HB.out)⟩
          ·rw [if_neg c11] at H
           have c11b0 : decide ((rd l0 x25_1) < 0) = false := decide_eq_false c11
           clear c11
           by_cases c12 : (rd l0 x25_1) ≥ (l0.length : Int)
           ·rw [if_pos c12] at H
            have c12b0 : decide ((l0.length : Int) ≤ (rd l0 x25_1)) = true := decide_eq_true c12
            clear c12
            simp only [Option.some.injEq, Prod.mk.injEq] at H
            obtain ⟨rfl, rfl⟩ := H
            have p105 : 0 ≤ (x25_1 : Int) := of_decide_eq_true (by first | (with_reducible assumption) | assumption)
            have q105 : x25_1 < (l0.length : Int) := of_decide_eq_true (by first | (with_reducible assumption) | assumption)
            obtain ⟨ad105, e105, hx105_0⟩ := Kd.at_int HR0.out x25_1 p105 q105
            cases e105
            replace hx105_0 := (HB.out.cell (World.block_lt_of_cell? w _ hx105_0)).trans hx105_0
            replace p105 := eq_true p105
            replace q105 := eq_true q105
            go_wp2
            go_ret2
            exact ⟨by first | rfl | (simp [errW_none, errW_some] <;> rfl) | (simp [*, errW_none, errW_some] <;> rfl), by repeat (first | (with_reducible first | exact HB.out | apply below_alloc | apply pw_below_drewN | apply below_drew1) | exact HB.out)⟩
           ·rw [if_neg c12] at H
            have c12b0 : decide ((l0.length : Int) ≤ (rd l0 x25_1)) = false := decide_eq_false c12
            clear c12
            by_cases c13 : 0 ≤ (rd l0 x25_1)
            ·rw [if_pos c13] at H
             have c13b0 : decide (0 ≤ (rd l0 x25_1)) = true := decide_eq_true c13
             clear c13
             by_cases c14 : (rd l0 x25_1) < (x5_1.length : Int)
             ·rw [if_pos c14] at H
              have c14b0 : decide ((rd l0 x25_1) < (x5_1.length : Int)) = true := decide_eq_true c14
              clear c14
              obtain ⟨bq15, hbq15⟩ : ∃ b_ : Bool, b_ = (rdOf false x5_1 (rd l0 x25_1)) := ⟨_, rfl⟩
              replace H : (if bq15 = true then (some (0, 2)) else (chairs_Ways.l0 k1 l0 (l0.length : Int) (x5_1.set ((rd l0 x25_1) : Int).toNat true) l0 (l0.length : Int) (wrap64 (x25_1 + 1)))) = some (r1, r2) := by rw [← hbq15] at H; exact H
              have Nbq15 := Aside0.mk hbq15
              clear hbq15
              by_cases c16 : bq15 = true
              ·subst c16
               have H1 : (some (0, 2)) = some (r1, r2) := by rw [if_pos rfl] at H; exact H
               clear H
               have H := H1
               clear H1
               simp only [Option.some.injEq, Prod.mk.injEq] at H
               obtain ⟨rfl, rfl⟩ := H
               have p105 : 0 ≤ (x25_1 : Int) := of_decide_eq_true (by first | (with_reducible assumption) | assumption)
               have q105 : x25_1 < (l0.length : Int) := of_decide_eq_true (by first | (with_reducible assumption) | assumption)
               obtain ⟨ad105, e105, hx105_0⟩ := Kd.at_int HR0.out x25_1 p105 q105
               cases e105
               replace hx105_0 := (HB.out.cell (World.block_lt_of_cell? w _ hx105_0)).trans hx105_0
               replace p105 := eq_true p105
               replace q105 := eq_true q105
               obtain ⟨Ao17, co17, eo17⟩ := Kd.R_slice HO_5.out
               subst eo17
               have p106 : 0 ≤ ((rd l0 x25_1) : Int) := of_decide_eq_true (by first | (with_reducible assumption) | assumption)
               have q106 : (rd l0 x25_1) < (x5_1.length : Int) := of_decide_eq_true (by first | (with_reducible assumption) | assumption)
               obtain ⟨ad106, e106, hx106_0⟩ := Kd.at_bool (Kd.R_reads' HO_5.out).2.2 (rd l0 x25_1) p106 q106
               (try rw [← Nbq15.out] at hx106_0)
               cases e106
               replace p106 := eq_true p106
               replace q106 := eq_true q106
               go_wp2
               go_ret2
               exact ⟨by first | rfl | (simp [errW_none, errW_some] <;> rfl) | (simp [*, errW_none, errW_some] <;> rfl), by repeat (first | (with_reducible first | exact HB.out | apply below_alloc | apply pw_below_drewN | apply below_drew1) | exact HB.out)⟩
              ·replace c16 := Bool.eq_false_iff.mpr c16
               subst c16
               have H1 : (chairs_Ways.l0 k1 l0 (l0.length : Int) (x5_1.set ((rd l0 x25_1) : Int).toNat true) l0 (l0.length : Int) (wrap64 (x25_1 + 1))) = some (r1, r2) := by rw [if_neg (show ¬ (false = true) by decide)] at H; exact H
               clear H
               have H := H1
               clear H1
               obtain ⟨y107, hy107⟩ : ∃ y_ : List Bool, y_ = (x5_1.set ((rd l0 x25_1) : Int).toNat true) := ⟨_, rfl⟩
               replace H : (chairs_Ways.l0 k1 l0 (l0.length : Int) y107 l0 (l0.length : Int) (wrap64 (x25_1 + 1))) = some (r1, r2) := by first | (rw [hy107]; with_reducible exact H) | (have H2_ := (Option.bind_some _ _).symm.trans H; rw [hy107]; with_reducible exact H2_) | (have H2_ := (Option.bind_some _ _).symm.trans H; with_reducible exact H2_) | with_reducible exact H | (rw [hy107]; exact H) | exact H
               have Ny107 := Aside0.mk hy107
               clear hy107
               have H' := Aside0.mk H
               clear H
               have p105 : 0 ≤ (x25_1 : Int) := of_decide_eq_true (by first | (with_reducible assumption) | assumption)
               have q105 : x25_1 < (l0.length : Int) := of_decide_eq_true (by first | (with_reducible assumption) | assumption)
               obtain ⟨ad105, e105, hx105_0⟩ := Kd.at_int HR0.out x25_1 p105 q105
               cases e105
               replace hx105_0 := (HB.out.cell (World.block_lt_of_cell? w _ hx105_0)).trans hx105_0
               replace p105 := eq_true p105
               replace q105 := eq_true q105
               obtain ⟨Ao19, co19, eo19⟩ := Kd.R_slice HO_5.out
               subst eo19
               have p106 : 0 ≤ ((rd l0 x25_1) : Int) := of_decide_eq_true (by first | (with_reducible assumption) | assumption)
               have q106 : (rd l0 x25_1) < (x5_1.length : Int) := of_decide_eq_true (by first | (with_reducible assumption) | assumption)
               obtain ⟨ad106, e106, hx106_0⟩ := Kd.at_bool (Kd.R_reads' HO_5.out).2.2 (rd l0 x25_1) p106 q106
               (try rw [← Nbq15.out] at hx106_0)
               cases e106
               replace p106 := eq_true p106
               replace q106 := eq_true q106
               have p18 : 0 ≤ ((rd l0 x25_1) : Int) := of_decide_eq_true (by first | (with_reducible assumption) | assumption)
               have q18 : ((rd l0 x25_1) : Int) < ((x5_1.length : Int) : Int) := of_decide_eq_true (by first | (with_reducible assumption) | assumption)
               obtain ⟨go18, co18, eo18, gb18, gl18, cl18, HG18⟩ := Kd.R_form HO_5.out (by omega)
               (first | cases eo18 | (injection eo18 with ea_ en_ ec_; (first | subst ea_ | (injection ea_ with ea_; subst ea_)); subst ec_; clear en_))
               have GB18 := Aside0.mk gb18
               have GG18 := Aside0.mk HG18
               clear gb18 gl18 HG18
               (first | simp only [add_plain] at hx106_0 | skip)
               obtain ⟨hx18_0, hf18_0⟩ := Kd.R_celln false HO_5.out ((rd l0 x25_1) : Int) p18 q18
               replace p18 := eq_true p18
               replace q18 := eq_true q18
               have HP20 := Kd.R_putg HO_5.out ((rd l0 x25_1) : Int) true
               go_wp2_with (first | ((with_reducible refine gate_store (t := 4) (p := 44) rfl ?_); refine store_event (t := 4) (p := 44) (v := ?vo_w21) (w1 := (wr.setCell ⟨go18, ((rd l0 x25_1) : Int).toNat, none⟩ (.bool true))) ?hg ?ho ?hn ?hr ?_; (case ho => rfl); (case hg => rfl); (case hn => rfl); (case hr => first | (go_simp; done) | (go_simp; rfl)); intro w21 hw; have hg : wr.grownBy w21 (some go18) := (by rw [hw]; exact HP20.2); have hp_ : Kd.R Kd.bool 4 w21 w.heap.size (fun _ => True) (.slice (some ⟨go18, 0, none⟩) x5_1.length co19) y107 := (by rw [hw, Ny107.out]; exact HP20.1); clear HP20; have n0_ := Aside0.mk (hp_); have n1_ := Aside0.mk ((by rw [hw]; exact below_set (HB.out) GB18.out : Below w.heap.size w w21)); clear HO_5; clear HB; have HO_5 := n0_; have HB := n1_; clear n0_ n1_; clear hg hw hp_))
               go_roundg k1
               case measure => have := HK1.out; omega
               case rel => exact ⟨(y107), (wrap64 (x25_1 + 1)), (by first | rfl | (simp; done) | (simp [*]; done)), H', ⟨by have := HK1.out; omega⟩, ⟨by (with_reducible repeat (first | apply Kd.R_alloc | apply Kd.R_drewN | apply Kd.R_drew)); exact HO_5.out⟩, ⟨by repeat (first | (with_reducible first | exact HB.out | apply below_alloc | apply pw_below_drewN | apply below_drew1) | exact HB.out)⟩⟩
             ·rw [if_neg c14] at H
              exact absurd H (by simp)
            ·rw [if_neg c13] at H
             exact absurd H (by simp)
         ·rw [if_neg c10] at H
          exact absurd H (by simp)
        ·rw [if_neg c9] at H
         exact absurd H (by simp)
       ·rw [if_neg c8] at H
        have c8b0 : decide (x25_1 < (l0.length : Int)) = false := decide_eq_false c8
        clear c8
        have H' := Aside0.mk H
        clear H
        go_wp2
        go_loopg [8, 48] k1 (fun kq v8 v48 w' => ∃ (x8_2 : Int) (x48_2 : Int), v8 = .int .i64 x8_2 ∧ v48 = .int .i64 x48_2 ∧ Aside0 (chairs_Ways.l1 kq l0 x8_2 l0 (l0.length : Int) x48_2 = some (r1, r2)) ∧ Aside0 (kq ≤ k1) ∧ Aside0 (Below w.heap.size w w'))
        case atStart => exact ⟨(1), (0), (by first | rfl | (simp; done) | (simp [*]; done)), (by first | rfl | (simp; done) | (simp [*]; done)), H', ⟨Nat.le_refl _⟩, ⟨by repeat (first | (with_reducible first | exact HB.out | apply below_alloc | apply pw_below_drewN | apply below_drew1) | exact HB.out)⟩⟩
        case round =>
         clear H'
         try clear c1
         try clear p1
         try clear q1
         try clear hx1
         try clear hf1
         try clear c2
         try clear c2b0
         try clear c2b1
         try clear p2
         try clear c3
         try clear c3b0
         try clear c3b1
         try clear c3b2
         try clear c4
         try clear c4b0
         try clear c4b1
         try clear c5
         try clear c5b0
         try clear c5b1
         try clear p6
         try clear c8
         try clear c8b0
         try clear c9
         try clear c9b0
         try clear c10
         try clear c10b0
         try clear p10
         try clear q10
         try clear hx10
         try clear c11
         try clear c11b0
         try clear c12
         try clear c12b0
         try clear c13
         try clear c13b0
         try clear c14
         try clear c14b0
         try clear q15
         try clear c16
         try clear p18
         try clear q18
         try clear hx18
         try clear hf18
         try clear c20
         try clear hx105_0
         try clear hx106_0
         try clear hx18_0
         try clear p105
         try clear p106
         try clear p18
         try clear p2
         try clear q105
         try clear q106
         try clear q18
         obtain ⟨x8_2, x48_2, rfl, rfl, HA, HK2, HB⟩ := hrel
         cases gk with
         | zero => exact absurd HA.out (by simp [chairs_Ways.l1])
         | succ k2 =>
          have H := HA.out
          clear HA
          simp only [chairs_Ways.l1] at H
          by_cases c22 : x48_2 < (l0.length : Int)
          ·rw [if_pos c22] at H
           have c22b0 : decide (x48_2 < (l0.length : Int)) = true := decide_eq_true c22
           clear c22
           by_cases c23 : 0 ≤ x48_2
           ·rw [if_pos c23] at H
            have c23b0 : decide (0 ≤ x48_2) = true := decide_eq_true c23
            clear c23
            by_cases c24 : x48_2 < (l0.length : Int)
            ·rw [if_pos c24] at H
             have c24b0 : decide (x48_2 < (l0.length : Int)) = true := decide_eq_true c24
             clear c24
             have H' := Aside0.mk H
             clear H
             have p108 : 0 ≤ (x48_2 : Int) := of_decide_eq_true (by first | (with_reducible assumption) | assumption)
             have q108 : x48_2 < (l0.length : Int) := of_decide_eq_true (by first | (with_reducible assumption) | assumption)
             obtain ⟨ad108, e108, hx108_0⟩ := Kd.at_int HR0.out x48_2 p108 q108
             cases e108
             replace hx108_0 := (HB.out.cell (World.block_lt_of_cell? w _ hx108_0)).trans hx108_0
             replace p108 := eq_true p108
             replace q108 := eq_true q108
             go_wp2
             go_loopg [11, 12] k2 (fun kq v11 v12 w' => ∃ (x11_3 : Int) (x12_3 : Int), v11 = .int .i64 x11_3 ∧ v12 = .int .i64 x12_3 ∧ Aside0 (chairs_Ways.l2 kq l0 x8_2 (rd l0 x48_2) x11_3 x12_3 l0 (l0.length : Int) x48_2 = some (r1, r2)) ∧ Aside0 (kq ≤ k2) ∧ Aside0 (Below w.heap.size w w'))
             case atStart => exact ⟨(1), (wrap64 (x48_2 - 1)), (by first | rfl | (simp; done) | (simp [*]; done)), (by first | rfl | (simp; done) | (simp [*]; done)), H', ⟨Nat.le_refl _⟩, ⟨by repeat (first | (with_reducible first | exact HB.out | apply below_alloc | apply pw_below_drewN | apply below_drew1) | exact HB.out)⟩⟩
             case round =>
              clear H'
              try clear c1
              try clear p1
              try clear q1
              try clear hx1
              try clear hf1
              try clear c2
              try clear c2b0
              try clear c2b1
              try clear p2
              try clear c3
              try clear c3b0
              try clear c3b1
              try clear c3b2
              try clear c4
              try clear c4b0
              try clear c4b1
              try clear c5
              try clear c5b0
              try clear c5b1
              try clear p6
              try clear c8
              try clear c8b0
              try clear c9
              try clear c9b0
              try clear c10
              try clear c10b0
              try clear p10
              try clear q10
              try clear hx10
              try clear c11
              try clear c11b0
              try clear c12
              try clear c12b0
              try clear c13
              try clear c13b0
              try clear c14
              try clear c14b0
              try clear q15
              try clear c16
              try clear p18
              try clear q18
              try clear hx18
              try clear hf18
              try clear c20
              try clear c22
              try clear c22b0
              try clear c23
              try clear c23b0
              try clear c24
              try clear c24b0
              try clear hx105_0
              try clear hx106_0
              try clear hx108_0
              try clear hx18_0
              try clear p1
              try clear p10
              try clear p105
              try clear p106
              try clear p108
              try clear p18
              try clear p2
              try clear p6
              try clear q1
              try clear q10
              try clear q105
              try clear q106
              try clear q108
              try clear q15
              try clear q18
              obtain ⟨x11_3, x12_3, rfl, rfl, HA, HK3, HB⟩ := hrel
              cases gk with
              | zero => exact absurd HA.out (by simp [chairs_Ways.l2])
              | succ k3 =>
               have H := HA.out
               clear HA
               simp only [chairs_Ways.l2] at H
               by_cases c25 : x12_3 ≥ 0
               ·rw [if_pos c25] at H
                have c25b0 : decide (0 ≤ x12_3) = true := decide_eq_true c25
                clear c25
                by_cases c26 : 0 ≤ x12_3
                ·rw [if_pos c26] at H
                 have c26b0 : decide (0 ≤ x12_3) = true := decide_eq_true c26
                 clear c26
                 by_cases c27 : x12_3 < (l0.length : Int)
                 ·rw [if_pos c27] at H
                  have c27b0 : decide (x12_3 < (l0.length : Int)) = true := decide_eq_true c27
                  clear c27
                  by_cases c28 : (rd l0 x12_3) < (rd l0 x48_2)
                  ·rw [if_pos c28] at H
                   have c28b0 : decide ((rd l0 x12_3) < (rd l0 x48_2)) = true := decide_eq_true c28
                   clear c28
                   have H' := Aside0.mk H
                   clear H
                   have p109 : 0 ≤ (x12_3 : Int) := of_decide_eq_true (by first | (with_reducible assumption) | assumption)
                   have q109 : x12_3 < (l0.length : Int) := of_decide_eq_true (by first | (with_reducible assumption) | assumption)
                   obtain ⟨ad109, e109, hx109_0⟩ := Kd.at_int HR0.out x12_3 p109 q109
                   obtain rfl : ad108 = ad109 := (by injection e109)
                   replace hx109_0 := (HB.out.cell (World.block_lt_of_cell? w _ hx109_0)).trans hx109_0
                   replace p109 := eq_true p109
                   replace q109 := eq_true q109
                   go_wp2
                   go_roundg k3
                   case measure => have := HK1.out; have := HK2.out; have := HK3.out; omega
                   case rel => exact ⟨(wrap64 (x11_3 + 1)), (wrap64 (x12_3 - 1)), (by first | rfl | (simp; done) | (simp [*]; done)), (by first | rfl | (simp; done) | (simp [*]; done)), H', ⟨by have := HK1.out; have := HK2.out; have := HK3.out; omega⟩, ⟨by repeat (first | (with_reducible first | exact HB.out | apply below_alloc | apply pw_below_drewN | apply below_drew1) | exact HB.out)⟩⟩
                  ·rw [if_neg c28] at H
                   have c28b0 : decide ((rd l0 x12_3) < (rd l0 x48_2)) = false := decide_eq_false c28
                   clear c28
                   have H' := Aside0.mk H
                   clear H
                   have p109 : 0 ≤ (x12_3 : Int) := of_decide_eq_true (by first | (with_reducible assumption) | assumption)
                   have q109 : x12_3 < (l0.length : Int) := of_decide_eq_true (by first | (with_reducible assumption) | assumption)
                   obtain ⟨ad109, e109, hx109_0⟩ := Kd.at_int HR0.out x12_3 p109 q109
                   obtain rfl : ad108 = ad109 := (by injection e109)
                   replace hx109_0 := (HB.out.cell (World.block_lt_of_cell? w _ hx109_0)).trans hx109_0
                   replace p109 := eq_true p109
                   replace q109 := eq_true q109
                   go_wp2
                   go_roundg k3
                   case measure => have := HK1.out; have := HK2.out; have := HK3.out; omega
                   case rel => exact ⟨(wrap64 (x8_2 * x11_3)), (wrap64 (x48_2 + 1)), (by first | rfl | (simp; done) | (simp [*]; done)), (by first | rfl | (simp; done) | (simp [*]; done)), H', ⟨by have := HK1.out; have := HK2.out; have := HK3.out; omega⟩, ⟨by repeat (first | (with_reducible first | exact HB.out | apply below_alloc | apply pw_below_drewN | apply below_drew1) | exact HB.out)⟩⟩
                 ·rw [if_neg c27] at H
                  exact absurd H (by simp)
                ·rw [if_neg c26] at H
                 exact absurd H (by simp)
               ·rw [if_neg c25] at H
                have c25b0 : decide (0 ≤ x12_3) = false := decide_eq_false c25
                clear c25
                have H' := Aside0.mk H
                clear H
                go_wp2
                go_roundg k3
                case measure => have := HK1.out; have := HK2.out; have := HK3.out; omega
                case rel => exact ⟨(wrap64 (x8_2 * x11_3)), (wrap64 (x48_2 + 1)), (by first | rfl | (simp; done) | (simp [*]; done)), (by first | rfl | (simp; done) | (simp [*]; done)), H', ⟨by have := HK1.out; have := HK2.out; have := HK3.out; omega⟩, ⟨by repeat (first | (with_reducible first | exact HB.out | apply below_alloc | apply pw_below_drewN | apply below_drew1) | exact HB.out)⟩⟩
            ·rw [if_neg c24] at H
             exact absurd H (by simp)
           ·rw [if_neg c23] at H
            exact absurd H (by simp)
          ·rw [if_neg c22] at H
           have c22b0 : decide (x48_2 < (l0.length : Int)) = false := decide_eq_false c22
           clear c22
           simp only [Option.some.injEq, Prod.mk.injEq] at H
           obtain ⟨rfl, rfl⟩ := H
           go_wp2
           go_ret2
           exact ⟨by first | rfl | (simp [errW_none, errW_some] <;> rfl) | (simp [*, errW_none, errW_some] <;> rfl), by repeat (first | (with_reducible first | exact HB.out | apply below_alloc | apply pw_below_drewN | apply below_drew1) | exact HB.out)⟩
    ·rw [if_neg c5] at H
     exact absurd H (by simp)
   ·rw [if_neg c4] at H
    exact absurd H (by simp)
/-! ### chairs_turned: function 52 -/
def chairs_turned.l0 : Nat → Int → Int → List Int → List Int → Int → Int → Option (List Int)
 | 0, _, _, _, _, _, _ => none
 | k + 1, x0, x2, x7, x10, x11, x12 => if x12 < x11 then (if 0 ≤ x12 then (if x12 < (x10.length : Int) then (if (wrap64 (x0 + 1)) = 0 then (none) else (if x7.length < 17592186044416 then (chairs_turned.l0 k x0 x2 (x7 ++ [Int.tmod (wrap64 ((rd x10 x12) + x2)) (wrap64 (x0 + 1))]) x10 x11 (wrap64 (x12 + 1))) else (none))) else (none)) else (none)) else (some x7)
def chairs_turned.f (k : Nat) (a0 : Int) (l1 : List Int) (a2 : Int) : Option (List Int) := chairs_turned.l0 k a0 a2 ([] : List Int) l1 (l1.length : Int) 0
theorem chairs_turned.mono_l : ∀ k, (∀ y0 y1 y2 y3 y4 y5, LeO (chairs_turned.l0 k y0 y1 y2 y3 y4 y5) (chairs_turned.l0 (k + 1) y0 y1 y2 y3 y4 y5))
 | 0 => fun _ _ _ _ _ _ r h => by simp [chairs_turned.l0] at h
 | k + 1 => by
  have ih0 := chairs_turned.mono_l k
  ·intro y0 y1 y2 y3 y4 y5
   unfold chairs_turned.l0
   repeat' first
   | (with_reducible exact ih0 _ _ _ _ _ _)
   | (with_reducible exact LeO.refl _)
   | (with_reducible exact LeO.none _)
   | (with_reducible refine LeO.ite ?_ ?_)
   | (with_reducible refine LeO.bind ?_ (fun _ => ?_))
   | exact ih0 _ _ _ _ _ _
   | exact LeO.none _
   | refine LeO.ite ?_ ?_
   | refine LeO.bind ?_ (fun _ => ?_)
theorem chairs_turned.mono : ∀ a0 a1 a2 k, LeO (chairs_turned.f k a0 a1 a2) (chairs_turned.f (k + 1) a0 a1 a2) := by
 intro a0 a1 a2 k
 have ih0 := chairs_turned.mono_l k
 unfold chairs_turned.f
 repeat' first
   | (with_reducible exact ih0 _ _ _ _ _ _)
   | (with_reducible exact LeO.refl _)
   | (with_reducible exact LeO.none _)
   | (with_reducible refine LeO.ite ?_ ?_)
   | (with_reducible refine LeO.bind ?_ (fun _ => ?_))
   | exact ih0 _ _ _ _ _ _
   | exact LeO.none _
   | refine LeO.ite ?_ ?_
   | refine LeO.bind ?_ (fun _ => ?_)
set_option maxHeartbeats 8000000 in
set_option maxRecDepth 100000 in
theorem chairs_turned.calls (k : Nat) (a0 : Int) (A1 : Option Addr) (c1 : Nat) (l1 : List Int) (a2 : Int) (r : List Int) (w : World) (hr1 : Kd.C (Kd.int .i64) w A1 l1.length l1) (hc1 : l1.length ≤ c1) (h : chairs_turned.f k a0 l1 a2 = some r) :
  Calls Try.prog 52 #[.int .i64 a0, .slice A1 l1.length c1, .int .i64 a2] w fun e w' => ∃ v0_ : Value, e = .returned (v0_) ∧ Kd.R (Kd.int .i64) 3 w' w.heap.size (fun _ => True) v0_ r ∧ Below w.heap.size w w' := by
 have HR1 := Aside0.mk hr1
 have HC1 := Aside0.mk hc1
 clear hr1 hc1
 have HB := Aside0.mk (Below.refl w.heap.size w)
 have H : (chairs_turned.l0 k a0 a2 ([] : List Int) l1 (l1.length : Int) 0) = some r := h
 clear h
 have H' := Aside0.mk H
 clear H
 go_enter Try.func52, Try.ntmps52
 go_wp2
 go_loopg [7, 12] k (fun kq v7 v12 w' => ∃ (x7_1 : List Int) (x12_1 : Int), v12 = .int .i64 x12_1 ∧ Aside0 (chairs_turned.l0 kq a0 a2 x7_1 l1 (l1.length : Int) x12_1 = some r) ∧ Aside0 (kq ≤ k) ∧ Aside0 (Kd.R (Kd.int .i64) 3 w' w.heap.size (fun _ => True) v7 x7_1) ∧ Aside0 (Below w.heap.size w w'))
 case atStart => exact ⟨(([] : List Int)), (0), (by first | rfl | (simp; done) | (simp [*]; done)), H', ⟨Nat.le_refl _⟩, ⟨by first | exact Kd.R_nil _ _ _ _ _ | exact Kd.N_nil _ _ _ _ _ | exact Kd.V_nil _ _ _ _ _ | exact Kd.Q_nil _ _ _ _ _ | exact Kd.S_nil _ _ _ _ _⟩, ⟨by repeat (first | (with_reducible first | exact HB.out | apply below_alloc | apply pw_below_drewN | apply below_drew1) | exact HB.out)⟩⟩
 case round =>
  clear H'
  try clear c1
  try clear p2
  obtain ⟨x7_1, x12_1, rfl, HA, HK1, HO_7, HB⟩ := hrel
  cases gk with
  | zero => exact absurd HA.out (by simp [chairs_turned.l0])
  | succ k1 =>
   have H := HA.out
   clear HA
   simp only [chairs_turned.l0] at H
   by_cases c4 : x12_1 < (l1.length : Int)
   ·rw [if_pos c4] at H
    have c4b0 : decide (x12_1 < (l1.length : Int)) = true := decide_eq_true c4
    clear c4
    by_cases c5 : 0 ≤ x12_1
    ·rw [if_pos c5] at H
     have c5b0 : decide (0 ≤ x12_1) = true := decide_eq_true c5
     clear c5
     by_cases c6 : x12_1 < (l1.length : Int)
     ·rw [if_pos c6] at H
      have c6b0 : decide (x12_1 < (l1.length : Int)) = true := decide_eq_true c6
      clear c6
      by_cases c7 : (wrap64 (a0 + 1)) = 0
      ·rw [if_pos c7] at H
       exact absurd H (by simp)
      ·rw [if_neg c7] at H
       have c7b0 : ((wrap64 (a0 + 1)) == 0) = false := beq_eq_false_iff_ne.mpr c7
       have c7b1 : ((wrap64 (a0 + 1)) != 0) = true := bne_iff_ne.mpr c7
       by_cases c8 : x7_1.length < 17592186044416
       ·rw [if_pos c8] at H
        have LMc8 := Aside0.mk c8
        clear c8
        obtain ⟨y117, hy117⟩ : ∃ y_ : List Int, y_ = (x7_1 ++ [Int.tmod (wrap64 ((rd l1 x12_1) + a2)) (wrap64 (a0 + 1))]) := ⟨_, rfl⟩
        replace H : (chairs_turned.l0 k1 a0 a2 y117 l1 (l1.length : Int) (wrap64 (x12_1 + 1))) = some r := by first | (rw [hy117]; with_reducible exact H) | (have H2_ := (Option.bind_some _ _).symm.trans H; rw [hy117]; with_reducible exact H2_) | (have H2_ := (Option.bind_some _ _).symm.trans H; with_reducible exact H2_) | with_reducible exact H | (rw [hy117]; exact H) | exact H
        have Ny117 := Aside0.mk hy117
        clear hy117
        have H' := Aside0.mk H
        clear H
        have p116 : 0 ≤ (x12_1 : Int) := of_decide_eq_true (by first | (with_reducible assumption) | assumption)
        have q116 : x12_1 < (l1.length : Int) := of_decide_eq_true (by first | (with_reducible assumption) | assumption)
        obtain ⟨ad116, e116, hx116_0⟩ := Kd.at_int HR1.out x12_1 p116 q116
        cases e116
        replace hx116_0 := (HB.out.cell (World.block_lt_of_cell? w _ hx116_0)).trans hx116_0
        replace p116 := eq_true p116
        replace q116 := eq_true q116
        go_wp2_with (first | ((with_reducible refine gate_builtin (b := .append) (xs := #[.tmp 16, .tmp 23]) rfl ?_); at_builtin; refine Kd.R_append (Kd.int .i64) (w0 := w) w.heap.size rfl (.tmp 16) (.tmp 23) 22 3 (.int .i64 0) 8 rfl Try.underlying22 info3 rfl (by decide) (by omega) u7 x7_1 (Int.tmod (wrap64 ((rd l1 x12_1) + a2)) (wrap64 (a0 + 1))) [.int .i64 (Int.tmod (wrap64 ((rd l1 x12_1) + a2)) (wrap64 (a0 + 1)))] (fun _ => True) (fun _ => False) rfl rfl ?aP (fun _ hk => hk.elim) ?aF ?aO ?aB ?aS ?aL ?_; (case aP => exact rfl); (case aB => exact (by repeat (first | (with_reducible first | exact HB.out | apply below_alloc | apply pw_below_drewN | apply below_drew1) | exact HB.out))); (case aF => exact (fun _ _ => trivial)); (case aO => exact (by (with_reducible repeat (first | apply Kd.R_alloc | apply Kd.R_drewN | apply Kd.R_drew)); exact HO_7.out)); (case aS => exact (below_size (by repeat (first | (with_reducible first | exact HB.out | apply below_alloc | apply pw_below_drewN | apply below_drew1) | exact HB.out)))); (case aL => have := LMc8.out; omega); intro v118 w9 ho hb hg hat; rw [← Ny117.out] at ho; have n0_ := Aside0.mk (hb); have n1_ := Aside0.mk (ho); clear HB; clear HO_7; have HB := n0_; have HO119 := n1_; clear n0_ n1_; clear ho hb hg hat))
        go_roundg k1
        case measure => have := HK1.out; omega
        case rel => exact ⟨(y117), (wrap64 (x12_1 + 1)), (by first | rfl | (simp; done) | (simp [*]; done)), H', ⟨by have := HK1.out; omega⟩, ⟨by (with_reducible repeat (first | apply Kd.R_alloc | apply Kd.R_drewN | apply Kd.R_drew)); exact HO119.out⟩, ⟨by repeat (first | (with_reducible first | exact HB.out | apply below_alloc | apply pw_below_drewN | apply below_drew1) | exact HB.out)⟩⟩
       ·rw [if_neg c8] at H
        exact absurd H (by simp)
     ·rw [if_neg c6] at H
      exact absurd H (by simp)
    ·rw [if_neg c5] at H
     exact absurd H (by simp)
   ·rw [if_neg c4] at H
    have c4b0 : decide (x12_1 < (l1.length : Int)) = false := decide_eq_false c4
    clear c4
    obtain rfl := Option.some.inj H
    go_wp2
    go_ret
    exact ⟨_, by first | rfl | (simp [errW_none, errW_some] <;> rfl) | (simp [*, errW_none, errW_some] <;> rfl), by (with_reducible repeat (first | apply Kd.R_alloc | apply Kd.R_drewN | apply Kd.R_drew)); exact HO_7.out, by repeat (first | (with_reducible first | exact HB.out | apply below_alloc | apply pw_below_drewN | apply below_drew1) | exact HB.out)⟩
/-! ### slices_Index_int_int: function 68 -/
def slices_Index_int_int.l0 : Nat → List Int → Int → Int → Int → Option (Int)
 | 0, _, _, _, _ => none
 | k + 1, x0, x1, x7, x8 => if x8 < x7 then (if 0 ≤ x8 then (if x8 < (x0.length : Int) then (if x1 = (rd x0 x8) then (some x8) else (slices_Index_int_int.l0 k x0 x1 x7 (wrap64 (x8 + 1)))) else (none)) else (none)) else (some (-1))
def slices_Index_int_int.f (k : Nat) (l0 : List Int) (a1 : Int) : Option (Int) := slices_Index_int_int.l0 k l0 a1 (l0.length : Int) 0
theorem slices_Index_int_int.mono_l : ∀ k, (∀ y0 y1 y2 y3, LeO (slices_Index_int_int.l0 k y0 y1 y2 y3) (slices_Index_int_int.l0 (k + 1) y0 y1 y2 y3))
 | 0 => fun _ _ _ _ r h => by simp [slices_Index_int_int.l0] at h
 | k + 1 => by
  have ih0 := slices_Index_int_int.mono_l k
  ·intro y0 y1 y2 y3
   unfold slices_Index_int_int.l0
   repeat' first
   | (with_reducible exact ih0 _ _ _ _)
   | (with_reducible exact LeO.refl _)
   | (with_reducible exact LeO.none _)
   | (with_reducible refine LeO.ite ?_ ?_)
   | (with_reducible refine LeO.bind ?_ (fun _ => ?_))
   | exact ih0 _ _ _ _
   | exact LeO.none _
   | refine LeO.ite ?_ ?_
   | refine LeO.bind ?_ (fun _ => ?_)
theorem slices_Index_int_int.mono : ∀ a0 a1 k, LeO (slices_Index_int_int.f k a0 a1) (slices_Index_int_int.f (k + 1) a0 a1) := by
 intro a0 a1 k
 have ih0 := slices_Index_int_int.mono_l k
 unfold slices_Index_int_int.f
 repeat' first
   | (with_reducible exact ih0 _ _ _ _)
   | (with_reducible exact LeO.refl _)
   | (with_reducible exact LeO.none _)
   | (with_reducible refine LeO.ite ?_ ?_)
   | (with_reducible refine LeO.bind ?_ (fun _ => ?_))
   | exact ih0 _ _ _ _
   | exact LeO.none _
   | refine LeO.ite ?_ ?_
   | refine LeO.bind ?_ (fun _ => ?_)
set_option maxHeartbeats 8000000 in
set_option maxRecDepth 100000 in
theorem slices_Index_int_int.calls (k : Nat) (A0 : Option Addr) (c0 : Nat) (l0 : List Int) (a1 : Int) (r : Int) (w : World) (hr0 : Kd.C (Kd.int .i64) w A0 l0.length l0) (hc0 : l0.length ≤ c0) (h : slices_Index_int_int.f k l0 a1 = some r) :
  Calls Try.prog 68 #[.slice A0 l0.length c0, .int .i64 a1] w fun e w' => e = .returned (.int .i64 r) ∧ Drawn0 w w' := by
 have HR0 := Aside0.mk hr0
 have HC0 := Aside0.mk hc0
 clear hr0 hc0
 have H : (slices_Index_int_int.l0 k l0 a1 (l0.length : Int) 0) = some r := h
 clear h
 have H' := Aside0.mk H
 clear H
 go_enter Try.func68, Try.ntmps68
 go_wp2
 go_loopg [8] k (fun kq v8 w' => ∃ (x8_1 : Int), v8 = .int .i64 x8_1 ∧ Aside0 (slices_Index_int_int.l0 kq l0 a1 (l0.length : Int) x8_1 = some r) ∧ Aside0 (kq ≤ k) ∧ Drawn0 w w')
 case atStart => exact ⟨(0), (by first | rfl | (simp; done) | (simp [*]; done)), H', ⟨Nat.le_refl _⟩, by repeat (first | exact Drawn0.refl _ | apply Drawn0.step)⟩
 case round =>
  clear H'
  try clear p2
  obtain ⟨x8_1, rfl, HA, HK1, ⟨m1, rfl⟩⟩ := hrel
  cases gk with
  | zero => exact absurd HA.out (by simp [slices_Index_int_int.l0])
  | succ k1 =>
   have H := HA.out
   clear HA
   simp only [slices_Index_int_int.l0] at H
   by_cases c3 : x8_1 < (l0.length : Int)
   ·rw [if_pos c3] at H
    have c3b0 : decide (x8_1 < (l0.length : Int)) = true := decide_eq_true c3
    clear c3
    by_cases c4 : 0 ≤ x8_1
    ·rw [if_pos c4] at H
     have c4b0 : decide (0 ≤ x8_1) = true := decide_eq_true c4
     clear c4
     by_cases c5 : x8_1 < (l0.length : Int)
     ·rw [if_pos c5] at H
      have c5b0 : decide (x8_1 < (l0.length : Int)) = true := decide_eq_true c5
      clear c5
      by_cases c6 : a1 = (rd l0 x8_1)
      ·rw [if_pos c6] at H
       have c6b0 : (a1 == (rd l0 x8_1)) = true := beq_iff_eq.mpr c6
       have c6b1 : (a1 != (rd l0 x8_1)) = false := bne_eq_false_iff_eq.mpr c6
       clear c6
       obtain rfl := Option.some.inj H
       have p120 : 0 ≤ (x8_1 : Int) := of_decide_eq_true (by first | (with_reducible assumption) | assumption)
       have q120 : x8_1 < (l0.length : Int) := of_decide_eq_true (by first | (with_reducible assumption) | assumption)
       obtain ⟨ad120, e120, hx120_0⟩ := Kd.at_int HR0.out x8_1 p120 q120
       cases e120
       replace p120 := eq_true p120
       replace q120 := eq_true q120
       go_wp2
       go_ret
       exact ⟨by first | rfl | (simp; done) | (simp [*]; done), by repeat (first | exact Drawn0.refl _ | apply Drawn0.step)⟩
      ·rw [if_neg c6] at H
       have c6b0 : (a1 == (rd l0 x8_1)) = false := beq_eq_false_iff_ne.mpr c6
       have c6b1 : (a1 != (rd l0 x8_1)) = true := bne_iff_ne.mpr c6
       have H' := Aside0.mk H
       clear H
       have p120 : 0 ≤ (x8_1 : Int) := of_decide_eq_true (by first | (with_reducible assumption) | assumption)
       have q120 : x8_1 < (l0.length : Int) := of_decide_eq_true (by first | (with_reducible assumption) | assumption)
       obtain ⟨ad120, e120, hx120_0⟩ := Kd.at_int HR0.out x8_1 p120 q120
       cases e120
       replace p120 := eq_true p120
       replace q120 := eq_true q120
       go_wp2
       go_roundg k1
       case measure => have := HK1.out; omega
       case rel => exact ⟨(wrap64 (x8_1 + 1)), (by first | rfl | (simp; done) | (simp [*]; done)), H', ⟨by have := HK1.out; omega⟩, by repeat (first | exact Drawn0.refl _ | apply Drawn0.step)⟩
     ·rw [if_neg c5] at H
      exact absurd H (by simp)
    ·rw [if_neg c4] at H
     exact absurd H (by simp)
   ·rw [if_neg c3] at H
    have c3b0 : decide (x8_1 < (l0.length : Int)) = false := decide_eq_false c3
    clear c3
    obtain rfl := Option.some.inj H
    go_wp2
    go_ret
    exact ⟨by first | rfl | (simp; done) | (simp [*]; done), by repeat (first | exact Drawn0.refl _ | apply Drawn0.step)⟩
/-! ### slices_Contains_int_int: function 53 -/
def slices_Contains_int_int.f (k : Nat) (l0 : List Int) (a1 : Int) : Option (Bool) := (slices_Index_int_int.f k l0 a1).bind fun t121 => (some (decide (t121 ≥ 0)))
theorem slices_Contains_int_int.mono : ∀ a0 a1 k, LeO (slices_Contains_int_int.f k a0 a1) (slices_Contains_int_int.f (k + 1) a0 a1) := by
 intro a0 a1 k
 unfold slices_Contains_int_int.f
 repeat' first
   | (with_reducible exact slices_Index_int_int.mono _ _ _)
   | (with_reducible exact LeO.refl _)
   | (with_reducible exact LeO.none _)
   | (with_reducible refine LeO.ite ?_ ?_)
   | (with_reducible refine LeO.bind ?_ (fun _ => ?_))
   | exact slices_Index_int_int.mono _ _ _
   | exact LeO.none _
   | refine LeO.ite ?_ ?_
   | refine LeO.bind ?_ (fun _ => ?_)
set_option maxHeartbeats 8000000 in
set_option maxRecDepth 100000 in
theorem slices_Contains_int_int.calls (k : Nat) (A0 : Option Addr) (c0 : Nat) (l0 : List Int) (a1 : Int) (r : Bool) (w : World) (hr0 : Kd.C (Kd.int .i64) w A0 l0.length l0) (hc0 : l0.length ≤ c0) (h : slices_Contains_int_int.f k l0 a1 = some r) :
  Calls Try.prog 53 #[.slice A0 l0.length c0, .int .i64 a1] w fun e w' => e = .returned (.bool r) ∧ Drawn0 w w' := by
 have HR0 := Aside0.mk hr0
 have HC0 := Aside0.mk hc0
 clear hr0 hc0
 have H : ((slices_Index_int_int.f k l0 a1).bind fun t121 => (some (decide (t121 ≥ 0)))) = some r := h
 clear h
 replace H := Option.bind_eq_some_iff.mp H
 obtain ⟨t121, A30, H⟩ := H
 replace H : (some (decide (t121 ≥ 0))) = some r := H
 have A3 := Aside0.mk A30
 clear A30
 obtain rfl := Option.some.inj H
 go_enter Try.func53, Try.ntmps53
 go_wp2_with (first | ((with_reducible refine gate_callee (f := 68) rfl ?_); refine goesL_ (some 7) rfl rfl Try.func68 (by kernel_rfl) rfl #[.slice A0 l0.length c0, .int .i64 a1] rfl (by (try simp only [List.map_toArray, List.map_cons, List.map_nil]); first | done | rfl | (simp only [List.length_drop, List.length_take]; rfl)) ?_; (with_reducible refine (slices_Index_int_int.calls k _ _ l0 a1 t121 _ ?side1 ?side2 A3.out).mono ?_); (case side1 => repeat (first | exact HR0.out | (with_reducible refine Kd.C_alloc ?_ _) | (with_reducible refine Kd.C_drewN ?_ _) | (with_reducible refine Kd.C_drew ?_))); (case side2 => exact HC0.out); rintro e w' ⟨rfl, ⟨nd, rfl⟩⟩; refine ⟨_, rfl, ?_⟩))
 go_ret
 exact ⟨by first | rfl | (simp; done) | (simp [*]; done), by repeat (first | exact Drawn0.refl _ | apply Drawn0.step)⟩
/-! ### chairs_Turn: function 22 -/
def chairs_Turn.l0 : Nat → Int → List Int → Int → Int → Option (Int × Int)
 | 0, _, _, _, _ => none
 | k + 1, x0, x1, x18, x19 => if x19 < x18 then ((chairs_turned.f k x0 x1 x19).bind fun t136 => ((slices_Contains_int_int.f k t136 x0).bind fun t139 => (if t139 = true then (chairs_Turn.l0 k x0 x1 x18 (wrap64 (x19 + 1))) else ((chairs_sit.f k x0 t136).bind fun bt140 => (if bt140.2 = true then (some (x19, 0)) else (chairs_Turn.l0 k x0 x1 x18 (wrap64 (x19 + 1)))))))) else (some (0, 10))
def chairs_Turn.f (k : Nat) (a0 : Int) (l1 : List Int) : Option (Int × Int) := (chairs_wished.f a0 l1).bind fun t135 => (if t135 = 0 then (chairs_Turn.l0 k a0 l1 (wrap64 (a0 + 1)) 0) else (some (0, t135)))
theorem chairs_Turn.mono_l : ∀ k, (∀ y0 y1 y2 y3, LeO (chairs_Turn.l0 k y0 y1 y2 y3) (chairs_Turn.l0 (k + 1) y0 y1 y2 y3))
 | 0 => fun _ _ _ _ r h => by simp [chairs_Turn.l0] at h
 | k + 1 => by
  have ih0 := chairs_Turn.mono_l k
  ·intro y0 y1 y2 y3
   unfold chairs_Turn.l0
   repeat' first
   | (with_reducible exact ih0 _ _ _ _)
   | (with_reducible exact chairs_sit.mono _ _ _)
   | (with_reducible exact chairs_turned.mono _ _ _ _)
   | (with_reducible exact slices_Contains_int_int.mono _ _ _)
   | (with_reducible exact LeO.refl _)
   | (with_reducible exact LeO.none _)
   | (with_reducible refine LeO.ite ?_ ?_)
   | (with_reducible refine LeO.bind ?_ (fun _ => ?_))
   | exact ih0 _ _ _ _
   | exact chairs_sit.mono _ _ _
   | exact chairs_turned.mono _ _ _ _
   | exact slices_Contains_int_int.mono _ _ _
   | exact LeO.none _
   | refine LeO.ite ?_ ?_
   | refine LeO.bind ?_ (fun _ => ?_)
theorem chairs_Turn.mono : ∀ a0 a1 k, LeO (chairs_Turn.f k a0 a1) (chairs_Turn.f (k + 1) a0 a1) := by
 intro a0 a1 k
 have ih0 := chairs_Turn.mono_l k
 unfold chairs_Turn.f
 repeat' first
   | (with_reducible exact ih0 _ _ _ _)
   | (with_reducible exact chairs_sit.mono _ _ _)
   | (with_reducible exact chairs_turned.mono _ _ _ _)
   | (with_reducible exact slices_Contains_int_int.mono _ _ _)
   | (with_reducible exact LeO.refl _)
   | (with_reducible exact LeO.none _)
   | (with_reducible refine LeO.ite ?_ ?_)
   | (with_reducible refine LeO.bind ?_ (fun _ => ?_))
   | exact ih0 _ _ _ _
   | exact chairs_sit.mono _ _ _
   | exact chairs_turned.mono _ _ _ _
   | exact slices_Contains_int_int.mono _ _ _
   | exact LeO.none _
   | refine LeO.ite ?_ ?_
   | refine LeO.bind ?_ (fun _ => ?_)
set_option maxHeartbeats 8000000 in
set_option maxRecDepth 100000 in
theorem chairs_Turn.calls (k : Nat) (a0 : Int) (A1 : Option Addr) (c1 : Nat) (l1 : List Int) (r1 : Int) (r2 : Int) (w : World) (hr1 : Kd.C (Kd.int .i64) w A1 l1.length l1) (hc1 : l1.length ≤ c1) (h : chairs_Turn.f k a0 l1 = some (r1, r2)) :
  Calls Try.prog 22 #[.int .i64 a0, .slice A1 l1.length c1] w fun e w' => e = .returned (.tuple #[.int .i64 r1, .int .i64 r2]) ∧ Below w.heap.size w w' := by
 have HR1 := Aside0.mk hr1
 have HC1 := Aside0.mk hc1
 clear hr1 hc1
 have HB := Aside0.mk (Below.refl w.heap.size w)
 have H : ((chairs_wished.f a0 l1).bind fun t135 => (if t135 = 0 then (chairs_Turn.l0 k a0 l1 (wrap64 (a0 + 1)) 0) else (some (0, t135)))) = some (r1, r2) := h
 clear h
 replace H := Option.bind_eq_some_iff.mp H
 obtain ⟨t135, A30, H⟩ := H
 replace H : (if t135 = 0 then (chairs_Turn.l0 k a0 l1 (wrap64 (a0 + 1)) 0) else (some (0, t135))) = some (r1, r2) := H
 have A3 := Aside0.mk A30
 clear A30
 by_cases c4 : t135 = 0
 ·rw [if_pos c4] at H
  have c4b0 : (t135 == 0) = true := beq_iff_eq.mpr c4
  have c4b1 : (t135 != 0) = false := bne_eq_false_iff_eq.mpr c4
  clear c4
  have H' := Aside0.mk H
  clear H
  go_enter Try.func22, Try.ntmps22
  go_wp2_with (first | ((with_reducible refine gate_callee (f := 51) rfl ?_); refine goesL_ (some 13) rfl rfl Try.func51 (by kernel_rfl) rfl #[.int .i64 a0, .slice A1 l1.length c1] rfl (by (try simp only [List.map_toArray, List.map_cons, List.map_nil]); first | done | rfl | (simp only [List.length_drop, List.length_take]; rfl)) ?_; (with_reducible refine (chairs_wished.calls a0 _ _ l1 t135 _ ?side1 ?side2 A3.out).mono ?_); (case side1 => repeat (first | exact HR1.out | (with_reducible refine Kd.C_alloc ?_ _) | (with_reducible refine Kd.C_drewN ?_ _) | (with_reducible refine Kd.C_drew ?_))); (case side2 => exact HC1.out); rintro e w5 ⟨rfl, hb⟩; refine ⟨_, rfl, ?_⟩; have n0_ := Aside0.mk (below_step (by repeat (first | (with_reducible first | exact HB.out | apply below_alloc | apply pw_below_drewN | apply below_drew1) | exact HB.out)) hb); clear HB; have HB := n0_; clear n0_; (try clear hb); (try clear hb2); (try clear hk); (try clear hi)))
  go_loopg [19] k (fun kq v19 w' => ∃ (x19_1 : Int), v19 = .int .i64 x19_1 ∧ Aside0 (chairs_Turn.l0 kq a0 l1 (wrap64 (a0 + 1)) x19_1 = some (r1, r2)) ∧ Aside0 (kq ≤ k) ∧ Aside0 (Below w.heap.size w w'))
  case atStart => exact ⟨(0), (by first | rfl | (simp; done) | (simp [*]; done)), H', ⟨Nat.le_refl _⟩, ⟨by repeat (first | (with_reducible first | exact HB.out | apply below_alloc | apply pw_below_drewN | apply below_drew1) | exact HB.out)⟩⟩
  case round =>
   clear H'
   try clear c1
   try clear c2
   try clear p2
   try clear c4
   try clear c4b0
   try clear c4b1
   try clear c5
   obtain ⟨x19_1, rfl, HA, HK1, HB⟩ := hrel
   cases gk with
   | zero => exact absurd HA.out (by simp [chairs_Turn.l0])
   | succ k1 =>
    have H := HA.out
    clear HA
    simp only [chairs_Turn.l0] at H
    by_cases c6 : x19_1 < (wrap64 (a0 + 1))
    ·rw [if_pos c6] at H
     have c6b0 : decide (x19_1 < (wrap64 (a0 + 1))) = true := decide_eq_true c6
     clear c6
     replace H := Option.bind_eq_some_iff.mp H
     obtain ⟨t136, A70, H⟩ := H
     replace H : ((slices_Contains_int_int.f k1 t136 a0).bind fun t139 => (if t139 = true then (chairs_Turn.l0 k1 a0 l1 (wrap64 (a0 + 1)) (wrap64 (x19_1 + 1))) else ((chairs_sit.f k1 a0 t136).bind fun bt140 => (if bt140.2 = true then (some (x19_1, 0)) else (chairs_Turn.l0 k1 a0 l1 (wrap64 (a0 + 1)) (wrap64 (x19_1 + 1))))))) = some (r1, r2) := H
     have A7 := Aside0.mk A70
     clear A70
     replace H := Option.bind_eq_some_iff.mp H
     obtain ⟨t139, A80, H⟩ := H
     replace H : (if t139 = true then (chairs_Turn.l0 k1 a0 l1 (wrap64 (a0 + 1)) (wrap64 (x19_1 + 1))) else ((chairs_sit.f k1 a0 t136).bind fun bt140 => (if bt140.2 = true then (some (x19_1, 0)) else (chairs_Turn.l0 k1 a0 l1 (wrap64 (a0 + 1)) (wrap64 (x19_1 + 1)))))) = some (r1, r2) := H
     have A8 := Aside0.mk A80
     clear A80
     by_cases c9 : t139 = true
     ·subst c9
      have H1 : (chairs_Turn.l0 k1 a0 l1 (wrap64 (a0 + 1)) (wrap64 (x19_1 + 1))) = some (r1, r2) := by rw [if_pos rfl] at H; exact H
      clear H
      have H := H1
      clear H1
      have H' := Aside0.mk H
      clear H
      go_wp2_with (first | ((with_reducible refine gate_callee (f := 52) rfl ?_); refine goesL_ (some 25) rfl rfl Try.func52 (by kernel_rfl) rfl #[.int .i64 a0, .slice A1 l1.length c1, .int .i64 x19_1] rfl (by (try simp only [List.map_toArray, List.map_cons, List.map_nil]); first | done | rfl | (simp only [List.length_drop, List.length_take]; rfl)) ?_; (with_reducible refine (chairs_turned.calls k1 a0 _ _ l1 x19_1 t136 _ ?side1 ?side2 A7.out).mono ?_); (case side1 => repeat (first | exact (Kd.C_below HR1.out HB.out) | (with_reducible refine Kd.C_alloc ?_ _) | (with_reducible refine Kd.C_drewN ?_ _) | (with_reducible refine Kd.C_drew ?_))); (case side2 => exact HC1.out); rintro e w10 ⟨v137, rfl, ho0, hb⟩; refine ⟨_, rfl, ?_⟩; have n0_ := Aside0.mk (Kd.R_lower ho0 (below_size (by repeat (first | (with_reducible first | exact HB.out | apply below_alloc | apply pw_below_drewN | apply below_drew1) | exact HB.out)))); have n1_ := Aside0.mk (below_step (by repeat (first | (with_reducible first | exact HB.out | apply below_alloc | apply pw_below_drewN | apply below_drew1) | exact HB.out)) hb); clear HB; have HO138 := n0_; have HB := n1_; clear n0_ n1_; (try clear hb); (try clear hb2); (try clear hk); (try clear hi); (try clear ho0); obtain ⟨Ao11, co11, eo11⟩ := Kd.R_slice HO138.out; subst eo11) | ((with_reducible refine gate_callee (f := 53) rfl ?_); refine goesL_ (some 28) rfl rfl Try.func53 (by kernel_rfl) rfl #[.slice Ao11 t136.length co11, .int .i64 a0] rfl (by (try simp only [List.map_toArray, List.map_cons, List.map_nil]); first | done | rfl | (simp only [List.length_drop, List.length_take]; rfl)) ?_; (with_reducible refine (slices_Contains_int_int.calls k1 _ _ t136 a0 true _ ?side1 ?side2 A8.out).mono ?_); (case side1 => repeat (first | exact (Kd.R_reads' HO138.out).2.2 | (with_reducible refine Kd.C_alloc ?_ _) | (with_reducible refine Kd.C_drewN ?_ _) | (with_reducible refine Kd.C_drew ?_))); (case side2 => exact (Kd.R_reads' HO138.out).2.1); rintro e w' ⟨rfl, ⟨nd, rfl⟩⟩; refine ⟨_, rfl, ?_⟩))
      go_roundg k1
      case measure => have := HK1.out; omega
      case rel => exact ⟨(wrap64 (x19_1 + 1)), (by first | rfl | (simp; done) | (simp [*]; done)), H', ⟨by have := HK1.out; omega⟩, ⟨by repeat (first | (with_reducible first | exact HB.out | apply below_alloc | apply pw_below_drewN | apply below_drew1) | exact HB.out)⟩⟩
     ·replace c9 := Bool.eq_false_iff.mpr c9
      subst c9
      have H1 : ((chairs_sit.f k1 a0 t136).bind fun bt140 => (if bt140.2 = true then (some (x19_1, 0)) else (chairs_Turn.l0 k1 a0 l1 (wrap64 (a0 + 1)) (wrap64 (x19_1 + 1))))) = some (r1, r2) := by rw [if_neg (show ¬ (false = true) by decide)] at H; exact H
      clear H
      have H := H1
      clear H1
      replace H := Option.bind_eq_some_iff.mp H
      obtain ⟨⟨t140, t141⟩, A120, H⟩ := H
      replace H : (if t141 = true then (some (x19_1, 0)) else (chairs_Turn.l0 k1 a0 l1 (wrap64 (a0 + 1)) (wrap64 (x19_1 + 1)))) = some (r1, r2) := H
      have A12 := Aside0.mk A120
      clear A120
      by_cases c13 : t141 = true
      ·subst c13
       have H1 : (some (x19_1, 0)) = some (r1, r2) := by rw [if_pos rfl] at H; exact H
       clear H
       have H := H1
       clear H1
       simp only [Option.some.injEq, Prod.mk.injEq] at H
       obtain ⟨rfl, rfl⟩ := H
       go_wp2_with (first | ((with_reducible refine gate_callee (f := 52) rfl ?_); refine goesL_ (some 25) rfl rfl Try.func52 (by kernel_rfl) rfl #[.int .i64 a0, .slice A1 l1.length c1, .int .i64 x19_1] rfl (by (try simp only [List.map_toArray, List.map_cons, List.map_nil]); first | done | rfl | (simp only [List.length_drop, List.length_take]; rfl)) ?_; (with_reducible refine (chairs_turned.calls k1 a0 _ _ l1 x19_1 t136 _ ?side1 ?side2 A7.out).mono ?_); (case side1 => repeat (first | exact (Kd.C_below HR1.out HB.out) | (with_reducible refine Kd.C_alloc ?_ _) | (with_reducible refine Kd.C_drewN ?_ _) | (with_reducible refine Kd.C_drew ?_))); (case side2 => exact HC1.out); rintro e w14 ⟨v137, rfl, ho0, hb⟩; refine ⟨_, rfl, ?_⟩; have n0_ := Aside0.mk (Kd.R_lower ho0 (below_size (by repeat (first | (with_reducible first | exact HB.out | apply below_alloc | apply pw_below_drewN | apply below_drew1) | exact HB.out)))); have n1_ := Aside0.mk (below_step (by repeat (first | (with_reducible first | exact HB.out | apply below_alloc | apply pw_below_drewN | apply below_drew1) | exact HB.out)) hb); clear HB; have HO138 := n0_; have HB := n1_; clear n0_ n1_; (try clear hb); (try clear hb2); (try clear hk); (try clear hi); (try clear ho0); obtain ⟨Ao15, co15, eo15⟩ := Kd.R_slice HO138.out; subst eo15) | ((with_reducible refine gate_callee (f := 53) rfl ?_); refine goesL_ (some 28) rfl rfl Try.func53 (by kernel_rfl) rfl #[.slice Ao15 t136.length co15, .int .i64 a0] rfl (by (try simp only [List.map_toArray, List.map_cons, List.map_nil]); first | done | rfl | (simp only [List.length_drop, List.length_take]; rfl)) ?_; (with_reducible refine (slices_Contains_int_int.calls k1 _ _ t136 a0 false _ ?side1 ?side2 A8.out).mono ?_); (case side1 => repeat (first | exact (Kd.R_reads' HO138.out).2.2 | (with_reducible refine Kd.C_alloc ?_ _) | (with_reducible refine Kd.C_drewN ?_ _) | (with_reducible refine Kd.C_drew ?_))); (case side2 => exact (Kd.R_reads' HO138.out).2.1); rintro e w' ⟨rfl, ⟨nd, rfl⟩⟩; refine ⟨_, rfl, ?_⟩) | ((with_reducible refine gate_callee (f := 54) rfl ?_); refine goesL_ (some 32) rfl rfl Try.func54 (by kernel_rfl) rfl #[.int .i64 a0, .slice Ao15 t136.length co15] rfl (by (try simp only [List.map_toArray, List.map_cons, List.map_nil]); first | done | rfl | (simp only [List.length_drop, List.length_take]; rfl)) ?_; (with_reducible refine (chairs_sit.calls k1 a0 _ _ t136 t140 true _ ?side1 ?side2 A12.out).mono ?_); (case side1 => repeat (first | exact (Kd.R_reads' HO138.out).2.2 | (with_reducible refine Kd.C_alloc ?_ _) | (with_reducible refine Kd.C_drewN ?_ _) | (with_reducible refine Kd.C_drew ?_))); (case side2 => exact (Kd.R_reads' HO138.out).2.1); rintro e w16 ⟨v142, rfl, ho0, hb⟩; refine ⟨_, rfl, ?_⟩; have n0_ := Aside0.mk (Kd.R_elder' (by (with_reducible repeat (first | apply Kd.R_alloc | apply Kd.R_drewN | apply Kd.R_drew)); exact HO138.out) (Kd.R_base ho0) hb); have n1_ := Aside0.mk (Kd.R_lower (Kd.R_new' ho0 (Kd.R_lt (by (with_reducible repeat (first | apply Kd.R_alloc | apply Kd.R_drewN | apply Kd.R_drew)); exact HO138.out))) (below_size (by repeat (first | (with_reducible first | exact HB.out | apply below_alloc | apply pw_below_drewN | apply below_drew1) | exact HB.out)))); have n2_ := Aside0.mk (below_step (by repeat (first | (with_reducible first | exact HB.out | apply below_alloc | apply pw_below_drewN | apply below_drew1) | exact HB.out)) hb); clear HO138; clear HB; have HO138 := n0_; have HO143 := n1_; have HB := n2_; clear n0_ n1_ n2_; (try clear hb); (try clear hb2); (try clear hk); (try clear hi); (try clear ho0)))
       go_ret2
       exact ⟨by first | rfl | (simp [errW_none, errW_some] <;> rfl) | (simp [*, errW_none, errW_some] <;> rfl), by repeat (first | (with_reducible first | exact HB.out | apply below_alloc | apply pw_below_drewN | apply below_drew1) | exact HB.out)⟩
      ·replace c13 := Bool.eq_false_iff.mpr c13
       subst c13
       have H1 : (chairs_Turn.l0 k1 a0 l1 (wrap64 (a0 + 1)) (wrap64 (x19_1 + 1))) = some (r1, r2) := by rw [if_neg (show ¬ (false = true) by decide)] at H; exact H
       clear H
       have H := H1
       clear H1
       have H' := Aside0.mk H
       clear H
       go_wp2_with (first | ((with_reducible refine gate_callee (f := 52) rfl ?_); refine goesL_ (some 25) rfl rfl Try.func52 (by kernel_rfl) rfl #[.int .i64 a0, .slice A1 l1.length c1, .int .i64 x19_1] rfl (by (try simp only [List.map_toArray, List.map_cons, List.map_nil]); first | done | rfl | (simp only [List.length_drop, List.length_take]; rfl)) ?_; (with_reducible refine (chairs_turned.calls k1 a0 _ _ l1 x19_1 t136 _ ?side1 ?side2 A7.out).mono ?_); (case side1 => repeat (first | exact (Kd.C_below HR1.out HB.out) | (with_reducible refine Kd.C_alloc ?_ _) | (with_reducible refine Kd.C_drewN ?_ _) | (with_reducible refine Kd.C_drew ?_))); (case side2 => exact HC1.out); rintro e w17 ⟨v137, rfl, ho0, hb⟩; refine ⟨_, rfl, ?_⟩; have n0_ := Aside0.mk (Kd.R_lower ho0 (below_size (by repeat (first | (with_reducible first | exact HB.out | apply below_alloc | apply pw_below_drewN | apply below_drew1) | exact HB.out)))); have n1_ := Aside0.mk (below_step (by repeat (first | (with_reducible first | exact HB.out | apply below_alloc | apply pw_below_drewN | apply below_drew1) | exact HB.out)) hb); clear HB; have HO138 := n0_; have HB := n1_; clear n0_ n1_; (try clear hb); (try clear hb2); (try clear hk); (try clear hi); (try clear ho0); obtain ⟨Ao18, co18, eo18⟩ := Kd.R_slice HO138.out; subst eo18) | ((with_reducible refine gate_callee (f := 53) rfl ?_); refine goesL_ (some 28) rfl rfl Try.func53 (by kernel_rfl) rfl #[.slice Ao18 t136.length co18, .int .i64 a0] rfl (by (try simp only [List.map_toArray, List.map_cons, List.map_nil]); first | done | rfl | (simp only [List.length_drop, List.length_take]; rfl)) ?_; (with_reducible refine (slices_Contains_int_int.calls k1 _ _ t136 a0 false _ ?side1 ?side2 A8.out).mono ?_); (case side1 => repeat (first | exact (Kd.R_reads' HO138.out).2.2 | (with_reducible refine Kd.C_alloc ?_ _) | (with_reducible refine Kd.C_drewN ?_ _) | (with_reducible refine Kd.C_drew ?_))); (case side2 => exact (Kd.R_reads' HO138.out).2.1); rintro e w' ⟨rfl, ⟨nd, rfl⟩⟩; refine ⟨_, rfl, ?_⟩) | ((with_reducible refine gate_callee (f := 54) rfl ?_); refine goesL_ (some 32) rfl rfl Try.func54 (by kernel_rfl) rfl #[.int .i64 a0, .slice Ao18 t136.length co18] rfl (by (try simp only [List.map_toArray, List.map_cons, List.map_nil]); first | done | rfl | (simp only [List.length_drop, List.length_take]; rfl)) ?_; (with_reducible refine (chairs_sit.calls k1 a0 _ _ t136 t140 false _ ?side1 ?side2 A12.out).mono ?_); (case side1 => repeat (first | exact (Kd.R_reads' HO138.out).2.2 | (with_reducible refine Kd.C_alloc ?_ _) | (with_reducible refine Kd.C_drewN ?_ _) | (with_reducible refine Kd.C_drew ?_))); (case side2 => exact (Kd.R_reads' HO138.out).2.1); rintro e w19 ⟨v142, rfl, ho0, hb⟩; refine ⟨_, rfl, ?_⟩; have n0_ := Aside0.mk (Kd.R_elder' (by (with_reducible repeat (first | apply Kd.R_alloc | apply Kd.R_drewN | apply Kd.R_drew)); exact HO138.out) (Kd.R_base ho0) hb); have n1_ := Aside0.mk (Kd.R_lower (Kd.R_new' ho0 (Kd.R_lt (by (with_reducible repeat (first | apply Kd.R_alloc | apply Kd.R_drewN | apply Kd.R_drew)); exact HO138.out))) (below_size (by repeat (first | (with_reducible first | exact HB.out | apply below_alloc | apply pw_below_drewN | apply below_drew1) | exact HB.out)))); have n2_ := Aside0.mk (below_step (by repeat (first | (with_reducible first | exact HB.out | apply below_alloc | apply pw_below_drewN | apply below_drew1) | exact HB.out)) hb); clear HO138; clear HB; have HO138 := n0_; have HO143 := n1_; have HB := n2_; clear n0_ n1_ n2_; (try clear hb); (try clear hb2); (try clear hk); (try clear hi); (try clear ho0)))
       go_roundg k1
       case measure => have := HK1.out; omega
       case rel => exact ⟨(wrap64 (x19_1 + 1)), (by first | rfl | (simp; done) | (simp [*]; done)), H', ⟨by have := HK1.out; omega⟩, ⟨by repeat (first | (with_reducible first | exact HB.out | apply below_alloc | apply pw_below_drewN | apply below_drew1) | exact HB.out)⟩⟩
    ·rw [if_neg c6] at H
     have c6b0 : decide (x19_1 < (wrap64 (a0 + 1))) = false := decide_eq_false c6
     clear c6
     simp only [Option.some.injEq, Prod.mk.injEq] at H
     obtain ⟨rfl, rfl⟩ := H
     go_wp2
     go_ret2
     exact ⟨by first | rfl | (simp [errW_none, errW_some] <;> rfl) | (simp [*, errW_none, errW_some] <;> rfl), by repeat (first | (with_reducible first | exact HB.out | apply below_alloc | apply pw_below_drewN | apply below_drew1) | exact HB.out)⟩
 ·rw [if_neg c4] at H
  have c4b0 : (t135 == 0) = false := beq_eq_false_iff_ne.mpr c4
  have c4b1 : (t135 != 0) = true := bne_iff_ne.mpr c4
  simp only [Option.some.injEq, Prod.mk.injEq] at H
  obtain ⟨rfl, rfl⟩ := H
  go_enter Try.func22, Try.ntmps22
  go_wp2_with (first | ((with_reducible refine gate_callee (f := 51) rfl ?_); refine goesL_ (some 13) rfl rfl Try.func51 (by kernel_rfl) rfl #[.int .i64 a0, .slice A1 l1.length c1] rfl (by (try simp only [List.map_toArray, List.map_cons, List.map_nil]); first | done | rfl | (simp only [List.length_drop, List.length_take]; rfl)) ?_; (with_reducible refine (chairs_wished.calls a0 _ _ l1 t135 _ ?side1 ?side2 A3.out).mono ?_); (case side1 => repeat (first | exact HR1.out | (with_reducible refine Kd.C_alloc ?_ _) | (with_reducible refine Kd.C_drewN ?_ _) | (with_reducible refine Kd.C_drew ?_))); (case side2 => exact HC1.out); rintro e w20 ⟨rfl, hb⟩; refine ⟨_, rfl, ?_⟩; have n0_ := Aside0.mk (below_step (by repeat (first | (with_reducible first | exact HB.out | apply below_alloc | apply pw_below_drewN | apply below_drew1) | exact HB.out)) hb); clear HB; have HB := n0_; clear n0_; (try clear hb); (try clear hb2); (try clear hk); (try clear hi)))
  go_ret2
  exact ⟨by first | rfl | (simp [errW_none, errW_some] <;> rfl) | (simp [*, errW_none, errW_some] <;> rfl), by repeat (first | (with_reducible first | exact HB.out | apply below_alloc | apply pw_below_drewN | apply below_drew1) | exact HB.out)⟩
end Go.Proofs.Ytfopeenjpdaacaa.PC
end
section
set_option linter.unusedVariables false
set_option linter.unusedSimpArgs false
namespace Go.Proofs.Ytfopeenjpdaacaa.PC
open Go.RowKit Go.Proofs.YtfopeenjpdaacaaW.PrintWords Go.Proofs.YtfopeenjpdaacaaW.PrintLast Go.Proofs.YtfopeenjpdaacaaW.PrintMore
attribute [local go_sem] max2_int min2_int max_two min_two max_three min_three max_four min_four   -- for this text's walks alone
set_option linter.unusedVariables false
set_option linter.unusedSimpArgs false
/-! ### pomadelaw03_alive: function 17 -/
/-- the closed example is true (its walk below runs with its known answers) -/
def pomadelaw03_alive.f : Option (Bool) := some true
section
theorem lit_C (W : World) (xs : List Int) (hl : xs.length ≤ 1000) : Kd.C (Kd.int .i64) (W.alloc (.cells (nums .i64 xs).toArray 3)) (some ⟨W.heap.size, 0, none⟩) xs.length xs := by
 have h := own_lit W 0 3 .i64 xs (Nat.zero_le _) (by omega)
 have hR : Kd.R (Kd.int .i64) 3 (W.alloc (.cells (nums .i64 xs).toArray 3)) 0 (fun _ => True) (.slice (some ⟨W.heap.size, 0, none⟩) xs.length xs.length) xs := Kd.R_of_own h (fun _ _ => trivial)
 obtain ⟨A, c, e, _, hC⟩ := Kd.R_reads hR
 injection e with e1 e2 e3
 subst e1
 exact hC
theorem step_below {w w1 w2 : World} (h : Below w.heap.size w w1) (hb : Below w1.heap.size w1 w2) : Below w.heap.size w w2 := h.trans (hb.mono h.size)
theorem spread3 : chairs_Spread.f 3 = some ([6, 6, 3, 1], 0) := by
 have h := MSpread.row_of (n := 2) (by omega)
 unfold chairs_Spread.f
 rw [if_neg (by omega)]
 show some ((chairs_Spread.row (chairs_Spread.known 2) (2 + 1)).map (fun x : Nat => (x : Int)), (0 : Int)) = _
 rw [h]
 rfl
theorem alive_h1 (W : World) : Calls Try.prog 31 #[.int .i64 3, .slice (some ⟨W.heap.size, 0, none⟩) 3 3] (W.alloc (.cells #[.int .i64 0, .int .i64 0, .int .i64 1] 3)) fun e w' => ∃ A c, e = .returned (.tuple #[.slice A 3 c, .int .i64 0]) ∧ Hid (3 ≤ c ∧ Kd.C (Kd.int .i64) w' A 3 [0, 1, 2]) ∧ Hid (Below W.heap.size W w') :=
 (chairs_Sit.calls 100 3 _ 3 [0, 0, 1] [0, 1, 2] 0 _ (lit_C W [0, 0, 1] (by simp)) (by simp) (by decide +kernel)).mono fun e w' ⟨v0, he, hr, hb⟩ => by
  obtain ⟨A, c, rfl, hc, hC⟩ := Kd.R_reads hr
  exact ⟨A, c, he, Lib.hid ⟨hc, hC⟩, Lib.hid (((Below.refl _ W).alloc (Nat.le_refl _) _).trans (hb.mono (by simp)))⟩
theorem alive_h2 (W : World) : Calls Try.prog 22 #[.int .i64 3, .slice (some ⟨W.heap.size, 0, none⟩) 3 3] (W.alloc (.cells #[.int .i64 1, .int .i64 1, .int .i64 2] 3)) fun e w' => e = .returned (.tuple #[.int .i64 3, .int .i64 0]) ∧ Hid (Below W.heap.size W w') :=
 (chairs_Turn.calls 100 3 _ 3 [1, 1, 2] 3 0 _ (lit_C W [1, 1, 2] (by simp)) (by simp) (by decide +kernel)).mono fun e w' ⟨he, hb⟩ => ⟨he, Lib.hid (((Below.refl _ W).alloc (Nat.le_refl _) _).trans (hb.mono (by simp)))⟩
theorem alive_h3 (W : World) : Calls Try.prog 18 #[.int .i64 3, .int .i64 3] W fun e w' => e = .returned (.tuple #[.int .i64 16, .int .i64 0]) ∧ Hid (Below W.heap.size W w') :=
 (chairs_Count.calls 100 3 3 16 0 _ (by decide +kernel)).mono fun e w' ⟨he, hb⟩ => ⟨he, Lib.hid (hb.below)⟩
theorem alive_h4 (W : World) : Calls Try.prog 20 #[.slice (some ⟨W.heap.size, 0, none⟩) 3 3] (W.alloc (.cells #[.int .i64 0, .int .i64 1, .int .i64 2] 3)) fun e w' => e = .returned (.tuple #[.int .i64 6, .int .i64 0]) ∧ Hid (Below W.heap.size W w') :=
 (chairs_Ways.calls 100 _ 3 [0, 1, 2] 6 0 _ (lit_C W [0, 1, 2] (by simp)) (by simp) (by decide +kernel)).mono fun e w' ⟨he, hb⟩ => ⟨he, Lib.hid (((Below.refl _ W).alloc (Nat.le_refl _) _).trans (hb.mono (by simp)))⟩
theorem alive_h5 (W : World) : Calls Try.prog 38 #[.slice (some ⟨W.heap.size, 0, none⟩) 3 3] (W.alloc (.cells #[.int .i64 0, .int .i64 0, .int .i64 1] 3)) fun e w' => ∃ A c, e = .returned (.tuple #[.slice A 3 c, .int .i64 0]) ∧ Hid (3 ≤ c ∧ Kd.C (Kd.int .i64) w' A 3 [0, 0, 1]) ∧ Hid (Below W.heap.size W w') :=
 (chairs_Tree.calls 100 _ 3 [0, 0, 1] [0, 0, 1] 0 _ (lit_C W [0, 0, 1] (by simp)) (by simp) (by decide +kernel)).mono fun e w' ⟨v0, he, hr, hb⟩ => by
  obtain ⟨A, c, rfl, hc, hC⟩ := Kd.R_reads hr
  exact ⟨A, c, he, Lib.hid ⟨hc, hC⟩, Lib.hid (((Below.refl _ W).alloc (Nat.le_refl _) _).trans (hb.mono (by simp)))⟩
theorem alive_h6 (W : World) : Calls Try.prog 24 #[.int .i64 3] W fun e w' => ∃ A c, e = .returned (.tuple #[.slice A 4 c, .int .i64 0]) ∧ Hid (4 ≤ c ∧ Kd.C (Kd.int .i64) w' A 4 [6, 6, 3, 1]) ∧ Hid (Below W.heap.size W w') :=
 (chairs_Spread.calls 3 [6, 6, 3, 1] 0 _ spread3).mono fun e w' ⟨v0, he, hr, hb⟩ => by
  obtain ⟨A, c, rfl, hc, hC⟩ := Kd.R_reads hr
  exact ⟨A, c, he, Lib.hid ⟨hc, hC⟩, Lib.hid (hb)⟩
theorem alive_h7 (W : World) (A : Option Addr) (c : Nat) (hc : 3 ≤ c ∧ Kd.C (Kd.int .i64) W A 3 [0, 1, 2]) : Calls Try.prog 26 #[.slice A 3 c, .slice (some ⟨W.heap.size, 0, none⟩) 3 3] (W.alloc (.cells #[.int .i64 0, .int .i64 1, .int .i64 2] 3)) fun e w' => e = .returned (.bool true) ∧ Hid (Below W.heap.size W w') :=
 (pomadelaw03_same.calls 100 A c [0, 1, 2] _ 3 [0, 1, 2] true _ (Kd.C_alloc hc.2 _) hc.1 (lit_C W [0, 1, 2] (by simp)) (by simp) (by decide +kernel)).mono fun e w' ⟨he, hb⟩ => ⟨he, Lib.hid (((Below.refl _ W).alloc (Nat.le_refl _) _).trans (hb.below.mono (by simp)))⟩
theorem alive_h8 (W : World) (A : Option Addr) (c : Nat) (hc : 3 ≤ c ∧ Kd.C (Kd.int .i64) W A 3 [0, 0, 1]) : Calls Try.prog 26 #[.slice A 3 c, .slice (some ⟨W.heap.size, 0, none⟩) 3 3] (W.alloc (.cells #[.int .i64 0, .int .i64 0, .int .i64 1] 3)) fun e w' => e = .returned (.bool true) ∧ Hid (Below W.heap.size W w') :=
 (pomadelaw03_same.calls 100 A c [0, 0, 1] _ 3 [0, 0, 1] true _ (Kd.C_alloc hc.2 _) hc.1 (lit_C W [0, 0, 1] (by simp)) (by simp) (by decide +kernel)).mono fun e w' ⟨he, hb⟩ => ⟨he, Lib.hid (((Below.refl _ W).alloc (Nat.le_refl _) _).trans (hb.below.mono (by simp)))⟩
theorem alive_h9 (W : World) (A : Option Addr) (c : Nat) (hc : 4 ≤ c ∧ Kd.C (Kd.int .i64) W A 4 [6, 6, 3, 1]) : Calls Try.prog 26 #[.slice A 4 c, .slice (some ⟨W.heap.size, 0, none⟩) 4 4] (W.alloc (.cells #[.int .i64 6, .int .i64 6, .int .i64 3, .int .i64 1] 3)) fun e w' => e = .returned (.bool true) ∧ Hid (Below W.heap.size W w') :=
 (pomadelaw03_same.calls 100 A c [6, 6, 3, 1] _ 4 [6, 6, 3, 1] true _ (Kd.C_alloc hc.2 _) hc.1 (lit_C W [6, 6, 3, 1] (by simp)) (by simp) (by decide +kernel)).mono fun e w' ⟨he, hb⟩ => ⟨he, Lib.hid (((Below.refl _ W).alloc (Nat.le_refl _) _).trans (hb.below.mono (by simp)))⟩
set_option maxRecDepth 100000 in
set_option maxHeartbeats 4000000 in
theorem pomadelaw03_alive.calls  (r : Bool) (w : World) (h : pomadelaw03_alive.f  = some r) :
  Calls Try.prog 17 #[] w fun e w' => e = .returned (.bool r) ∧ Below w.heap.size w w' := by
 obtain rfl : r = true := (Option.some.inj h).symm
 clear h
 go_enter Try.func17, Try.ntmps17
 go_wp2_with fail
 refine (alive_h1 _).mono ?_
 rintro e w1 ⟨A1, c1, rfl, C1, B1⟩
 go_wp2_with fail
 refine (alive_h2 _).mono ?_
 rintro e w2 ⟨rfl, B2⟩
 go_wp2_with fail
 refine (alive_h3 _).mono ?_
 rintro e w3 ⟨rfl, B3⟩
 go_wp2_with fail
 refine (alive_h4 _).mono ?_
 rintro e w4 ⟨rfl, B4⟩
 go_wp2_with fail
 refine (alive_h5 _).mono ?_
 rintro e w5 ⟨A5, c5, rfl, C5, B5⟩
 go_wp2_with fail
 refine (alive_h6 _).mono ?_
 rintro e w6 ⟨A6, c6, rfl, C6, B6⟩
 have M26 := Lib.hid (step_below (step_below (step_below (step_below B2.out B3.out) B4.out) B5.out) B6.out)
 go_wp2_with fail
 refine (alive_h7 _ A1 c1 ⟨C1.out.1, Kd.C_below C1.out.2 M26.out⟩).mono ?_
 rintro e w7 ⟨rfl, B7⟩
 have M67 := Lib.hid (step_below B6.out B7.out)
 go_wp2_with fail
 refine (alive_h8 _ A5 c5 ⟨C5.out.1, Kd.C_below C5.out.2 M67.out⟩).mono ?_
 rintro e w8 ⟨rfl, B8⟩
 have M78 := Lib.hid (step_below B7.out B8.out)
 go_wp2_with fail
 refine (alive_h9 _ A6 c6 ⟨C6.out.1, Kd.C_below C6.out.2 M78.out⟩).mono ?_
 rintro e w9 ⟨rfl, B9⟩
 go_wp2_with fail
 go_ret
 exact ⟨rfl, step_below (step_below B1.out M26.out) (step_below M78.out B9.out)⟩
end
end Go.Proofs.Ytfopeenjpdaacaa.PC
end
section
set_option linter.unusedVariables false
set_option linter.unusedSimpArgs false
namespace Go.Proofs.Ytfopeenjpdaacaa.PC
open Go.RowKit Go.Proofs.YtfopeenjpdaacaaW.PrintWords Go.Proofs.YtfopeenjpdaacaaW.PrintLast Go.Proofs.YtfopeenjpdaacaaW.PrintMore
attribute [local go_sem] max2_int min2_int max_two min_two max_three min_three max_four min_four   -- for this text's walks alone
set_option linter.unusedVariables false
set_option linter.unusedSimpArgs false
/-! ### pomadelaw03_ChairsSpreads: function 5 -/
def pomadelaw03_ChairsSpreads.f (k : Nat) (a0 : Int) : Option (Bool) := (chairs_Spread.f a0).bind fun bt410 => ((pomaderef03_Spread.f a0).bind fun bt414 => ((pomadelaw03_same.f k bt410.1 bt414.1).bind fun t418 => (if t418 = true then (if bt410.2 = bt414.2 then ((pomadelaw03_alive.f).bind fun t419 => (some t419)) else (some false)) else (some false))))
theorem pomadelaw03_ChairsSpreads.mono : ∀ a0 k, LeO (pomadelaw03_ChairsSpreads.f k a0) (pomadelaw03_ChairsSpreads.f (k + 1) a0) := by
 intro a0 k
 unfold pomadelaw03_ChairsSpreads.f
 repeat' first
   | (with_reducible exact pomadelaw03_same.mono _ _ _)
   | (with_reducible exact LeO.refl _)
   | (with_reducible exact LeO.none _)
   | (with_reducible refine LeO.ite ?_ ?_)
   | (with_reducible refine LeO.bind ?_ (fun _ => ?_))
   | exact pomadelaw03_same.mono _ _ _
   | exact LeO.none _
   | refine LeO.ite ?_ ?_
   | refine LeO.bind ?_ (fun _ => ?_)
set_option maxHeartbeats 8000000 in
set_option maxRecDepth 100000 in
theorem pomadelaw03_ChairsSpreads.calls (k : Nat) (a0 : Int) (r : Bool) (w : World) (h : pomadelaw03_ChairsSpreads.f k a0 = some r) :
  Calls Try.prog 5 #[.int .i64 a0] w fun e w' => e = .returned (.bool r) ∧ Below w.heap.size w w' := by
 have HB := Aside0.mk (Below.refl w.heap.size w)
 have H : ((chairs_Spread.f a0).bind fun bt410 => ((pomaderef03_Spread.f a0).bind fun bt414 => ((pomadelaw03_same.f k bt410.1 bt414.1).bind fun t418 => (if t418 = true then (if bt410.2 = bt414.2 then ((pomadelaw03_alive.f).bind fun t419 => (some t419)) else (some false)) else (some false))))) = some r := h
 clear h
 replace H := Option.bind_eq_some_iff.mp H
 obtain ⟨⟨t410, t411⟩, A20, H⟩ := H
 replace H : ((pomaderef03_Spread.f a0).bind fun bt414 => ((pomadelaw03_same.f k t410 bt414.1).bind fun t418 => (if t418 = true then (if t411 = bt414.2 then ((pomadelaw03_alive.f).bind fun t419 => (some t419)) else (some false)) else (some false)))) = some r := H
 have A2 := Aside0.mk A20
 clear A20
 replace H := Option.bind_eq_some_iff.mp H
 obtain ⟨⟨t414, t415⟩, A30, H⟩ := H
 replace H : ((pomadelaw03_same.f k t410 t414).bind fun t418 => (if t418 = true then (if t411 = t415 then ((pomadelaw03_alive.f).bind fun t419 => (some t419)) else (some false)) else (some false))) = some r := H
 have A3 := Aside0.mk A30
 clear A30
 replace H := Option.bind_eq_some_iff.mp H
 obtain ⟨t418, A40, H⟩ := H
 replace H : (if t418 = true then (if t411 = t415 then ((pomadelaw03_alive.f).bind fun t419 => (some t419)) else (some false)) else (some false)) = some r := H
 have A4 := Aside0.mk A40
 clear A40
 by_cases c5 : t418 = true
 ·subst c5
  have H1 : (if t411 = t415 then ((pomadelaw03_alive.f).bind fun t419 => (some t419)) else (some false)) = some r := by rw [if_pos rfl] at H; exact H
  clear H
  have H := H1
  clear H1
  by_cases c6 : t411 = t415
  ·rw [if_pos c6] at H
   have c6b0 : (t411 == t415) = true := beq_iff_eq.mpr c6
   have c6b1 : (t411 != t415) = false := bne_eq_false_iff_eq.mpr c6
   clear c6
   replace H := Option.bind_eq_some_iff.mp H
   obtain ⟨t419, A70, H⟩ := H
   replace H : (some t419) = some r := H
   have A7 := Aside0.mk A70
   clear A70
   obtain rfl := Option.some.inj H
   go_enter Try.func5, Try.ntmps5
   go_wp2_with (first | ((with_reducible refine gate_callee (f := 24) rfl ?_); refine goesL_ (some 9) rfl rfl Try.func24 (by kernel_rfl) rfl #[.int .i64 a0] rfl (by (try simp only [List.map_toArray, List.map_cons, List.map_nil]); first | done | rfl | (simp only [List.length_drop, List.length_take]; rfl)) ?_; (with_reducible refine (chairs_Spread.calls a0 t410 t411 _ A2.out).mono ?_); rintro e w8 ⟨v412, rfl, ho0, hb⟩; refine ⟨_, rfl, ?_⟩; have n0_ := Aside0.mk (Kd.R_lower ho0 (below_size (by repeat (first | (with_reducible first | exact HB.out | apply below_alloc | apply pw_below_drewN | apply below_drew1) | exact HB.out)))); have n1_ := Aside0.mk (below_step (by repeat (first | (with_reducible first | exact HB.out | apply below_alloc | apply pw_below_drewN | apply below_drew1) | exact HB.out)) hb); clear HB; have HO413 := n0_; have HB := n1_; clear n0_ n1_; (try clear hb); (try clear hb2); (try clear hk); (try clear hi); (try clear ho0)) | ((with_reducible refine gate_callee (f := 25) rfl ?_); refine goesL_ (some 14) rfl rfl Try.func25 (by kernel_rfl) rfl #[.int .i64 a0] rfl (by (try simp only [List.map_toArray, List.map_cons, List.map_nil]); first | done | rfl | (simp only [List.length_drop, List.length_take]; rfl)) ?_; (with_reducible refine (pomaderef03_Spread.calls a0 t414 t415 _ A3.out).mono ?_); rintro e w9 ⟨v416, rfl, ho0, hb⟩; refine ⟨_, rfl, ?_⟩; have n0_ := Aside0.mk (Kd.R_elder' (by (with_reducible repeat (first | apply Kd.R_alloc | apply Kd.R_drewN | apply Kd.R_drew)); exact HO413.out) (Kd.R_base ho0) hb); have n1_ := Aside0.mk (Kd.R_lower (Kd.R_new' ho0 (Kd.R_lt (by (with_reducible repeat (first | apply Kd.R_alloc | apply Kd.R_drewN | apply Kd.R_drew)); exact HO413.out))) (below_size (by repeat (first | (with_reducible first | exact HB.out | apply below_alloc | apply pw_below_drewN | apply below_drew1) | exact HB.out)))); have n2_ := Aside0.mk (below_step (by repeat (first | (with_reducible first | exact HB.out | apply below_alloc | apply pw_below_drewN | apply below_drew1) | exact HB.out)) hb); clear HO413; clear HB; have HO413 := n0_; have HO417 := n1_; have HB := n2_; clear n0_ n1_ n2_; (try clear hb); (try clear hb2); (try clear hk); (try clear hi); (try clear ho0); obtain ⟨Ao10, co10, eo10⟩ := Kd.R_slice HO413.out; subst eo10; obtain ⟨Ao11, co11, eo11⟩ := Kd.R_slice HO417.out; subst eo11) | ((with_reducible refine gate_callee (f := 26) rfl ?_); refine goesL_ (some 19) rfl rfl Try.func26 (by kernel_rfl) rfl #[.slice Ao10 t410.length co10, .slice Ao11 t414.length co11] rfl (by (try simp only [List.map_toArray, List.map_cons, List.map_nil]); first | done | rfl | (simp only [List.length_drop, List.length_take]; rfl)) ?_; (with_reducible refine (pomadelaw03_same.calls k _ _ t410 _ _ t414 true _ ?side1 ?side2 ?side3 ?side4 A4.out).mono ?_); (case side1 => repeat (first | exact (Kd.R_reads' HO413.out).2.2 | (with_reducible refine Kd.C_alloc ?_ _) | (with_reducible refine Kd.C_drewN ?_ _) | (with_reducible refine Kd.C_drew ?_))); (case side2 => exact (Kd.R_reads' HO413.out).2.1); (case side3 => repeat (first | exact (Kd.R_reads' HO417.out).2.2 | (with_reducible refine Kd.C_alloc ?_ _) | (with_reducible refine Kd.C_drewN ?_ _) | (with_reducible refine Kd.C_drew ?_))); (case side4 => exact (Kd.R_reads' HO417.out).2.1); rintro e w' ⟨rfl, ⟨nd, rfl⟩⟩; refine ⟨_, rfl, ?_⟩) | (go_at_call 17; (with_reducible refine (pomadelaw03_alive.calls  t419 _ A7.out).mono ?_); rintro e w12 ⟨rfl, hb⟩; have n0_ := Aside0.mk (Kd.R_below (by (with_reducible repeat (first | apply Kd.R_alloc | apply Kd.R_drewN | apply Kd.R_drew)); exact HO413.out) hb); have n1_ := Aside0.mk (Kd.R_below (by (with_reducible repeat (first | apply Kd.R_alloc | apply Kd.R_drewN | apply Kd.R_drew)); exact HO417.out) hb); have n2_ := Aside0.mk (below_step (by repeat (first | (with_reducible first | exact HB.out | apply below_alloc | apply pw_below_drewN | apply below_drew1) | exact HB.out)) hb); clear HO413; clear HO417; clear HB; have HO413 := n0_; have HO417 := n1_; have HB := n2_; clear n0_ n1_ n2_; (try clear hb); (try clear hb2); (try clear hk); (try clear hi)))
   go_ret
   exact ⟨by first | rfl | (simp [errW_none, errW_some] <;> rfl) | (simp [*, errW_none, errW_some] <;> rfl), by repeat (first | (with_reducible first | exact HB.out | apply below_alloc | apply pw_below_drewN | apply below_drew1) | exact HB.out)⟩
  ·rw [if_neg c6] at H
   have c6b0 : (t411 == t415) = false := beq_eq_false_iff_ne.mpr c6
   have c6b1 : (t411 != t415) = true := bne_iff_ne.mpr c6
   obtain rfl := Option.some.inj H
   go_enter Try.func5, Try.ntmps5
   go_wp2_with (first | ((with_reducible refine gate_callee (f := 24) rfl ?_); refine goesL_ (some 9) rfl rfl Try.func24 (by kernel_rfl) rfl #[.int .i64 a0] rfl (by (try simp only [List.map_toArray, List.map_cons, List.map_nil]); first | done | rfl | (simp only [List.length_drop, List.length_take]; rfl)) ?_; (with_reducible refine (chairs_Spread.calls a0 t410 t411 _ A2.out).mono ?_); rintro e w13 ⟨v412, rfl, ho0, hb⟩; refine ⟨_, rfl, ?_⟩; have n0_ := Aside0.mk (Kd.R_lower ho0 (below_size (by repeat (first | (with_reducible first | exact HB.out | apply below_alloc | apply pw_below_drewN | apply below_drew1) | exact HB.out)))); have n1_ := Aside0.mk (below_step (by repeat (first | (with_reducible first | exact HB.out | apply below_alloc | apply pw_below_drewN | apply below_drew1) | exact HB.out)) hb); clear HB; have HO413 := n0_; have HB := n1_; clear n0_ n1_; (try clear hb); (try clear hb2); (try clear hk); (try clear hi); (try clear ho0)) | ((with_reducible refine gate_callee (f := 25) rfl ?_); refine goesL_ (some 14) rfl rfl Try.func25 (by kernel_rfl) rfl #[.int .i64 a0] rfl (by (try simp only [List.map_toArray, List.map_cons, List.map_nil]); first | done | rfl | (simp only [List.length_drop, List.length_take]; rfl)) ?_; (with_reducible refine (pomaderef03_Spread.calls a0 t414 t415 _ A3.out).mono ?_); rintro e w14 ⟨v416, rfl, ho0, hb⟩; refine ⟨_, rfl, ?_⟩; have n0_ := Aside0.mk (Kd.R_elder' (by (with_reducible repeat (first | apply Kd.R_alloc | apply Kd.R_drewN | apply Kd.R_drew)); exact HO413.out) (Kd.R_base ho0) hb); have n1_ := Aside0.mk (Kd.R_lower (Kd.R_new' ho0 (Kd.R_lt (by (with_reducible repeat (first | apply Kd.R_alloc | apply Kd.R_drewN | apply Kd.R_drew)); exact HO413.out))) (below_size (by repeat (first | (with_reducible first | exact HB.out | apply below_alloc | apply pw_below_drewN | apply below_drew1) | exact HB.out)))); have n2_ := Aside0.mk (below_step (by repeat (first | (with_reducible first | exact HB.out | apply below_alloc | apply pw_below_drewN | apply below_drew1) | exact HB.out)) hb); clear HO413; clear HB; have HO413 := n0_; have HO417 := n1_; have HB := n2_; clear n0_ n1_ n2_; (try clear hb); (try clear hb2); (try clear hk); (try clear hi); (try clear ho0); obtain ⟨Ao15, co15, eo15⟩ := Kd.R_slice HO413.out; subst eo15; obtain ⟨Ao16, co16, eo16⟩ := Kd.R_slice HO417.out; subst eo16) | ((with_reducible refine gate_callee (f := 26) rfl ?_); refine goesL_ (some 19) rfl rfl Try.func26 (by kernel_rfl) rfl #[.slice Ao15 t410.length co15, .slice Ao16 t414.length co16] rfl (by (try simp only [List.map_toArray, List.map_cons, List.map_nil]); first | done | rfl | (simp only [List.length_drop, List.length_take]; rfl)) ?_; (with_reducible refine (pomadelaw03_same.calls k _ _ t410 _ _ t414 true _ ?side1 ?side2 ?side3 ?side4 A4.out).mono ?_); (case side1 => repeat (first | exact (Kd.R_reads' HO413.out).2.2 | (with_reducible refine Kd.C_alloc ?_ _) | (with_reducible refine Kd.C_drewN ?_ _) | (with_reducible refine Kd.C_drew ?_))); (case side2 => exact (Kd.R_reads' HO413.out).2.1); (case side3 => repeat (first | exact (Kd.R_reads' HO417.out).2.2 | (with_reducible refine Kd.C_alloc ?_ _) | (with_reducible refine Kd.C_drewN ?_ _) | (with_reducible refine Kd.C_drew ?_))); (case side4 => exact (Kd.R_reads' HO417.out).2.1); rintro e w' ⟨rfl, ⟨nd, rfl⟩⟩; refine ⟨_, rfl, ?_⟩))
   go_ret
   exact ⟨by first | rfl | (simp [errW_none, errW_some] <;> rfl) | (simp [*, errW_none, errW_some] <;> rfl), by repeat (first | (with_reducible first | exact HB.out | apply below_alloc | apply pw_below_drewN | apply below_drew1) | exact HB.out)⟩
 ·replace c5 := Bool.eq_false_iff.mpr c5
  subst c5
  have H1 : (some false) = some r := by rw [if_neg (show ¬ (false = true) by decide)] at H; exact H
  clear H
  have H := H1
  clear H1
  obtain rfl := Option.some.inj H
  go_enter Try.func5, Try.ntmps5
  go_wp2_with (first | ((with_reducible refine gate_callee (f := 24) rfl ?_); refine goesL_ (some 9) rfl rfl Try.func24 (by kernel_rfl) rfl #[.int .i64 a0] rfl (by (try simp only [List.map_toArray, List.map_cons, List.map_nil]); first | done | rfl | (simp only [List.length_drop, List.length_take]; rfl)) ?_; (with_reducible refine (chairs_Spread.calls a0 t410 t411 _ A2.out).mono ?_); rintro e w17 ⟨v412, rfl, ho0, hb⟩; refine ⟨_, rfl, ?_⟩; have n0_ := Aside0.mk (Kd.R_lower ho0 (below_size (by repeat (first | (with_reducible first | exact HB.out | apply below_alloc | apply pw_below_drewN | apply below_drew1) | exact HB.out)))); have n1_ := Aside0.mk (below_step (by repeat (first | (with_reducible first | exact HB.out | apply below_alloc | apply pw_below_drewN | apply below_drew1) | exact HB.out)) hb); clear HB; have HO413 := n0_; have HB := n1_; clear n0_ n1_; (try clear hb); (try clear hb2); (try clear hk); (try clear hi); (try clear ho0)) | ((with_reducible refine gate_callee (f := 25) rfl ?_); refine goesL_ (some 14) rfl rfl Try.func25 (by kernel_rfl) rfl #[.int .i64 a0] rfl (by (try simp only [List.map_toArray, List.map_cons, List.map_nil]); first | done | rfl | (simp only [List.length_drop, List.length_take]; rfl)) ?_; (with_reducible refine (pomaderef03_Spread.calls a0 t414 t415 _ A3.out).mono ?_); rintro e w18 ⟨v416, rfl, ho0, hb⟩; refine ⟨_, rfl, ?_⟩; have n0_ := Aside0.mk (Kd.R_elder' (by (with_reducible repeat (first | apply Kd.R_alloc | apply Kd.R_drewN | apply Kd.R_drew)); exact HO413.out) (Kd.R_base ho0) hb); have n1_ := Aside0.mk (Kd.R_lower (Kd.R_new' ho0 (Kd.R_lt (by (with_reducible repeat (first | apply Kd.R_alloc | apply Kd.R_drewN | apply Kd.R_drew)); exact HO413.out))) (below_size (by repeat (first | (with_reducible first | exact HB.out | apply below_alloc | apply pw_below_drewN | apply below_drew1) | exact HB.out)))); have n2_ := Aside0.mk (below_step (by repeat (first | (with_reducible first | exact HB.out | apply below_alloc | apply pw_below_drewN | apply below_drew1) | exact HB.out)) hb); clear HO413; clear HB; have HO413 := n0_; have HO417 := n1_; have HB := n2_; clear n0_ n1_ n2_; (try clear hb); (try clear hb2); (try clear hk); (try clear hi); (try clear ho0); obtain ⟨Ao19, co19, eo19⟩ := Kd.R_slice HO413.out; subst eo19; obtain ⟨Ao20, co20, eo20⟩ := Kd.R_slice HO417.out; subst eo20) | ((with_reducible refine gate_callee (f := 26) rfl ?_); refine goesL_ (some 19) rfl rfl Try.func26 (by kernel_rfl) rfl #[.slice Ao19 t410.length co19, .slice Ao20 t414.length co20] rfl (by (try simp only [List.map_toArray, List.map_cons, List.map_nil]); first | done | rfl | (simp only [List.length_drop, List.length_take]; rfl)) ?_; (with_reducible refine (pomadelaw03_same.calls k _ _ t410 _ _ t414 false _ ?side1 ?side2 ?side3 ?side4 A4.out).mono ?_); (case side1 => repeat (first | exact (Kd.R_reads' HO413.out).2.2 | (with_reducible refine Kd.C_alloc ?_ _) | (with_reducible refine Kd.C_drewN ?_ _) | (with_reducible refine Kd.C_drew ?_))); (case side2 => exact (Kd.R_reads' HO413.out).2.1); (case side3 => repeat (first | exact (Kd.R_reads' HO417.out).2.2 | (with_reducible refine Kd.C_alloc ?_ _) | (with_reducible refine Kd.C_drewN ?_ _) | (with_reducible refine Kd.C_drew ?_))); (case side4 => exact (Kd.R_reads' HO417.out).2.1); rintro e w' ⟨rfl, ⟨nd, rfl⟩⟩; refine ⟨_, rfl, ?_⟩))
  go_ret
  exact ⟨by first | rfl | (simp [errW_none, errW_some] <;> rfl) | (simp [*, errW_none, errW_some] <;> rfl), by repeat (first | (with_reducible first | exact HB.out | apply below_alloc | apply pw_below_drewN | apply below_drew1) | exact HB.out)⟩
/-- THE ONE PURE STATEMENT of pomadelaw03_ChairsSpreads: yours. -/
def pomadelaw03_ChairsSpreads.Pure : Prop := ∀ (a0 : Int), (Lit.int .i64 a0).wf = true → ∃ k, pomadelaw03_ChairsSpreads.f k a0 = some true
theorem pomadelaw03_ChairsSpreads.walk (P : pomadelaw03_ChairsSpreads.Pure) (a0 : Int) (w : World) (w0 : (Lit.int .i64 a0).wf = true) :
  Calls Try.prog 5 #[.int .i64 a0] w fun e w' => e = .returned (.bool true) ∧ Below w.heap.size w w' := by
 obtain ⟨k, h⟩ := P a0 w0
 refine (pomadelaw03_ChairsSpreads.calls k a0 true w h).mono ?_
 rintro e w' ⟨rfl, hd⟩
 exact ⟨rfl, hd⟩
end Go.Proofs.Ytfopeenjpdaacaa.PC
end
section
set_option linter.unusedVariables false
set_option linter.unusedSimpArgs false
/- Chairs: the errors of wishes, and who sits where, by the program and by the specification. -/
namespace Go.Proofs.Ytfopeenjpdaacaa.L
open Go.RowKit Go.Proofs.Ytfopeenjpdaacaa.PC Go.Proofs.YtfopeenjpdaacaaW.PrintWords Go.Proofs.YtfopeenjpdaacaaW.PrintLast
theorem w64 {x : Int} (h0 : -9223372036854775808 ≤ x) (h1 : x ≤ 9223372036854775807) : wrap64 x = x := by unfold wrap64; omega
structure Row (m : Int) (l : List Int) : Prop where
  m1 : 1 ≤ m
  m30 : m ≤ 30
  len : (l.length : Int) ≤ m
  all : ∀ w ∈ l, 0 ≤ w ∧ w < m
/-! ### the chair of each customer -/
theorem same_loop (l : List Int) (hl : l.length ≤ 1000000) (d : Nat) : ∀ q : Nat, q + d = l.length → Ev (fun k => pomadelaw03_same.l0 k l l (q : Int)) true := by
  induction d with
  | zero =>
    intro q hq
    refine Ev.step (f := fun _ => some true) (fun k => ?_) (Ev.now _)
    simp only [pomadelaw03_same.l0]
    rw [if_neg (by omega)]
  | succ d ih =>
    intro q hq
    refine Ev.step (fun k => ?_) (ih (q + 1) (by omega))
    simp only [pomadelaw03_same.l0]
    rw [if_pos (by omega), if_pos (by omega), if_pos (by omega), w64 (by omega) (by omega)]
    simp
theorem same_ev (l : List Int) (hl : l.length ≤ 1000000) : Ev (fun k => pomadelaw03_same.f k l l) true :=
  Ev.congr (fun k => by unfold pomadelaw03_same.f; rw [if_pos rfl]; rfl) (same_loop l hl l.length 0 (by omega))
end Go.Proofs.Ytfopeenjpdaacaa.L
end
section
set_option linter.unusedVariables false
set_option linter.unusedSimpArgs false
/- The specification's spread is the row of the program's, for n up to 10: by the kernel, row by row. -/
namespace Go.Proofs.Ytfopeenjpdaacaa.PC
open Go.RowKit Go.Proofs.YtfopeenjpdaacaaW.PrintWords Go.Proofs.YtfopeenjpdaacaaW.PrintLast
set_option maxRecDepth 100000
/-- a row plus another one times cf, from b on -/
def zrow (r src : List Int) (cf : Int) : Nat → List Int
  | 0 => List.zipWith (fun x y => wrap64 (x + wrap64 (y * cf))) r src ++ r.drop src.length
  | b + 1 => match r with
    | [] => []
    | x :: t => x :: zrow t src cf b
theorem zrow_len (src : List Int) (cf : Int) : ∀ b r, r.length ≤ src.length + b → (zrow r src cf b).length = r.length
  | 0, r, h => by simp [zrow]; omega
  | b + 1, [], h => rfl
  | b + 1, x :: t, h => by
    simp only [zrow, List.length_cons]
    rw [zrow_len src cf b t (by simp at h; omega)]
theorem zrow_at (src : List Int) (cf : Int) : ∀ b r i, i < r.length → r.length ≤ src.length + b → (zrow r src cf b).getD i 0 = if b ≤ i then wrap64 (r.getD i 0 + wrap64 (src.getD (i - b) 0 * cf)) else r.getD i 0
  | 0, r, i, hi, h => by
    have h2 : i < src.length := by omega
    simp [zrow, List.getD_eq_getElem?_getD, List.getElem?_append, List.getElem?_zipWith, hi, h2, show i < min r.length src.length by omega]
  | b + 1, [], i, hi, h => by simp at hi
  | b + 1, x :: t, 0, hi, h => by simp [zrow]
  | b + 1, x :: t, i + 1, hi, h => by
    have := zrow_at src cf b t i (by simpa using hi) (by simp at h; omega)
    simp only [List.getD_eq_getElem?_getD] at this ⊢
    simp only [zrow, List.getElem?_cons_succ, this, Nat.add_sub_add_right, Nat.add_le_add_iff_right]
/-- the sums, in the row alone -/
def rRun (src : List Int) (cf : Int) (b : Nat) : Nat → Nat → List Int → List Int
  | 0, _, r => r
  | c + 1, d, r => rRun src cf b c (d + 1) (r.set (d + b) (wrap64 (rd r ((d + b : Nat) : Int) + wrap64 (rd src (d : Int) * cf))))
theorem rRun_len (src : List Int) (cf : Int) (b : Nat) : ∀ c d r, (rRun src cf b c d r).length = r.length
  | 0, _, _ => rfl
  | c + 1, d, r => by simp only [rRun]; rw [rRun_len src cf b c (d + 1)]; simp
theorem rRun_at (src : List Int) (cf : Int) (b : Nat) (i : Nat) : ∀ c d r, d + b + c ≤ r.length → (rRun src cf b c d r).getD i 0 = if d + b ≤ i ∧ i < d + b + c then wrap64 (r.getD i 0 + wrap64 (src.getD (i - b) 0 * cf)) else r.getD i 0
  | 0, d, r, _ => by simp only [rRun]; rw [if_neg (by omega)]
  | c + 1, d, r, h => by
    simp only [rRun]
    rw [rRun_at src cf b i c (d + 1) _ (by simp; omega), getD_set _ _ _ _ _ (by omega)]
    by_cases e : d + b = i
    · subst e
      rw [if_neg (by omega), if_pos rfl, if_pos (by omega), show d + b - b = d by omega]
      rfl
    · rw [if_neg e]
      by_cases q : d + 1 + b ≤ i ∧ i < d + 1 + b + c
      · rw [if_pos q, if_pos (by omega)]
      · rw [if_neg q, if_neg (by omega)]
theorem rRun_z (src : List Int) (cf : Int) (b : Nat) (r : List Int) (hb : b ≤ r.length) (hs : src.length = r.length) : rRun src cf b (r.length - b) 0 r = zrow r src cf b := by
  have l1 := rRun_len src cf b (r.length - b) 0 r
  have l2 := zrow_len src cf b r (by omega)
  apply List.ext_getElem (by omega)
  intro i h1 h2
  have a1 := rRun_at src cf b i (r.length - b) 0 r (by omega)
  have a2 := zrow_at src cf b r i (by omega) (by omega)
  have e1 : (rRun src cf b (r.length - b) 0 r).getD i 0 = (rRun src cf b (r.length - b) 0 r)[i] := by simp [List.getD_eq_getElem?_getD, h1]
  have e2 : (zrow r src cf b).getD i 0 = (zrow r src cf b)[i] := by simp [List.getD_eq_getElem?_getD, h2]
  rw [← e1, ← e2, a1, a2]
  by_cases q : b ≤ i
  · rw [if_pos (by omega), if_pos q]
  · rw [if_neg (by omega), if_neg q]
theorem dRun_row (src : List Int) (cf : Int) {n m a b : Nat} (ha : a < n) (hb : b < n) : ∀ c d G, Sh G n m → dRun src cf a b c d G = G.set a ((G.getD a []).set b (rRun src cf b c d (g2 G a b)))
  | 0, d, G, h => by
    have h1 := h.l1
    have h2 := h.l2 a ha
    simp only [dRun, rRun, g2]
    apply List.ext_getElem?
    intro i
    rw [List.getElem?_set]
    by_cases e : a = i
    · subst e
      rw [if_pos rfl, if_pos (by omega)]
      have : (G.getD a []).set b ((G.getD a []).getD b []) = G.getD a [] := by
        apply List.ext_getElem?
        intro q
        rw [List.getElem?_set]
        by_cases e2 : b = q
        · subst e2
          rw [if_pos rfl, if_pos (by omega)]
          rw [List.getD_eq_getElem?_getD (l := G.getD a []), List.getElem?_eq_getElem (by omega)]; rfl
        · rw [if_neg e2]
      rw [this, List.getD_eq_getElem?_getD, List.getElem?_eq_getElem (by omega)]; rfl
    · rw [if_neg e]
  | c + 1, d, G, h => by
    have h1 := h.l1
    have h2 := h.l2 a ha
    simp only [dRun, rRun]
    rw [dRun_row src cf ha hb c (d + 1) _ (h.set ha hb _ _)]
    have e1 : (s3 G a b (d + b) (wrap64 (g3 G a b (d + b) + wrap64 (rd src (d : Int) * cf)))).getD a [] = (G.getD a []).set b ((g2 G a b).set (d + b) (wrap64 (g3 G a b (d + b) + wrap64 (rd src (d : Int) * cf)))) := by
      unfold s3
      rw [getD_set _ _ _ _ _ (by omega), if_pos rfl]
    have e2 : g2 (s3 G a b (d + b) (wrap64 (g3 G a b (d + b) + wrap64 (rd src (d : Int) * cf)))) a b = (g2 G a b).set (d + b) (wrap64 (g3 G a b (d + b) + wrap64 (rd src (d : Int) * cf))) := by
      unfold g2 at e1 ⊢
      rw [e1, getD_set _ _ _ _ _ (by omega), if_pos rfl]
    rw [e1, e2]
    unfold s3
    rw [List.set_set, List.set_set]
    rfl
def kZ (T : T3) (l u : Nat) : Nat → Nat → T3 → T3
  | 0, _, G => G
  | c + 1, k, G => kZ T l u c (k + 1) (if u + k = 0 then G else G.set (l - k) ((G.getD (l - k) []).set (u + k - 1) (zrow (g2 G (l - k) (u + k - 1)) (g2 T l u) (cfOf l k) (u + k - 1))))
theorem kZ_eq (T : T3) {n m l u : Nat} (hT : Sh T n m) (hl : l < n) (hu : u < n) (hnm : n ≤ m + 1) : ∀ c k G, u + k + c ≤ n + 1 → Sh G n m → kRun T m l u c k G = kZ T l u c k G
  | 0, _, _, _, _ => rfl
  | c + 1, k, G, hk, h => by
    simp only [kRun, kZ]
    by_cases hz : u + k = 0
    · rw [if_pos hz, if_pos hz]
      exact kZ_eq T hT hl hu hnm c (k + 1) G (by omega) h
    · rw [if_neg hz, if_neg hz]
      have hg := h.l3 (l - k) (u + k - 1) (by omega) (by omega)
      have hs := hT.l3 l u hl hu
      rw [dRun_row (n := n) (m := m) _ _ (by omega) (by omega) _ _ _ h]
      have hr := rRun_z (g2 T l u) (cfOf l k) (u + k - 1) (g2 G (l - k) (u + k - 1)) (by omega) (by omega)
      rw [hg] at hr
      rw [hr]
      refine kZ_eq T hT hl hu hnm c (k + 1) _ (by omega) ?_
      have := dRun_sh (g2 T l u) (cfOf l k) (a := l - k) (b := u + k - 1) (n1 := n) (m1 := m) (by omega) (by omega) (m - (u + k - 1)) 0 G h
      rw [dRun_row (n := n) (m := m) _ _ (by omega) (by omega) _ _ _ h, hr] at this
      exact this
def uZ (T : T3) (l : Nat) : Nat → Nat → T3 → T3
  | 0, _, G => G
  | c + 1, u, G => uZ T l c (u + 1) (kZ T l u (l + 1) 0 G)
theorem uZ_eq (T : T3) {n m l : Nat} (hT : Sh T n m) (hl : l < n) (hnm : n ≤ m + 1) : ∀ c u G, u + c + l ≤ n → Sh G n m → uRun T m l c u G = uZ T l c u G
  | 0, _, _, _, _ => rfl
  | c + 1, u, G, hu, h => by
    simp only [uRun, uZ]
    rw [← kZ_eq T hT hl (by omega) hnm _ _ _ (by omega) h]
    exact uZ_eq T hT hl hnm c (u + 1) _ (by omega) (kRun_sh T hl _ _ _ (by omega) hl h)
def lZ (T : T3) (n1 : Nat) : Nat → Nat → T3 → T3
  | 0, _, G => G
  | c + 1, l, G => lZ T n1 c (l + 1) (uZ T l (n1 - l) 0 G)
theorem lZ_eq (T : T3) {n m : Nat} (hT : Sh T n m) (hnm : n ≤ m + 1) : ∀ c l G, l + c ≤ n → Sh G n m → lRun T n m c l G = lZ T n c l G
  | 0, _, _, _, _ => rfl
  | c + 1, l, G, hl, h => by
    simp only [lRun, lZ]
    rw [← uZ_eq T hT (by omega) hnm _ _ _ (by omega) h]
    exact lZ_eq T hT hnm c (l + 1) _ (by omega) (uRun_sh T (by omega) _ _ _ (by omega) h)
def cZ (n1 m1 : Nat) : Nat → T3 → T3
  | 0, T => T
  | c + 1, T => cZ n1 m1 c (lZ T n1 n1 0 (zero3 n1 m1))
theorem cZ_eq {n m : Nat} (hnm : n ≤ m + 1) : ∀ c T, Sh T n m → cRun n m c T = cZ n m c T
  | 0, _, _ => rfl
  | c + 1, T, h => by
    simp only [cRun, cZ]
    rw [← lZ_eq T h hnm _ _ _ (by omega) (zero_sh n m)]
    exact cZ_eq hnm c _ (lRun_sh T _ _ _ (by omega) (zero_sh n m))
def spreadZ (N : Nat) : List Int := g2 (cZ (N + 1) (N * (N - 1) / 2 + 1) N (s3 (zero3 (N + 1) (N * (N - 1) / 2 + 1)) N 0 0 1)) 0 0
theorem side : ∀ N : Nat, N < 11 → N + 1 ≤ N * (N - 1) / 2 + 1 + 1 := by decide
theorem spreadZ_eq (N : Nat) (hN : N < 11) : spreadL N = spreadZ N := by
  unfold spreadL spreadZ
  rw [cZ_eq (side N hN) _ _ ((zero_sh _ _).set (by omega) (by omega) 0 1)]
end Go.Proofs.Ytfopeenjpdaacaa.PC
end
section
set_option linter.unusedVariables false
set_option linter.unusedSimpArgs false
/- Chairs: ChairsSpreads. -/
namespace Go.Proofs.Ytfopeenjpdaacaa.L
open Go.RowKit Go.Proofs.Ytfopeenjpdaacaa.PC Go.Proofs.YtfopeenjpdaacaaW.PrintWords Go.Proofs.YtfopeenjpdaacaaW.PrintLast
set_option maxRecDepth 100000
theorem spread_rows : ∀ N : Nat, N < 11 → 1 ≤ N → spreadZ N = rowI N := by decide +kernel
theorem row_short : ∀ N : Nat, N < 11 → (rowI N).length ≤ 1000 := by decide +kernel
/-- Spread, plainly -/
def SpreadV (n : Int) : List Int × Int := if n < 1 ∨ n > 10 then ([], 2) else (rowI n.toNat, 0)
theorem Spread_val (n : Int) : chairs_Spread.f n = some (SpreadV n) := by
  unfold chairs_Spread.f SpreadV
  split <;> rfl
theorem rSpread_val (n : Int) : pomaderef03_Spread.f n = some (SpreadV n) := by
  unfold pomaderef03_Spread.f SpreadV
  by_cases c : n < 1
  · rw [if_pos c, if_pos (Or.inl c)]
  by_cases c2 : n > 10
  · rw [if_neg c, if_pos c2, if_pos (Or.inr c2)]
  rw [if_neg c, if_neg c2, if_neg (by omega)]
  unfold pomaderef03_spread.f
  rw [if_neg (by omega), Option.bind_some, spreadZ_eq _ (by omega), spread_rows _ (by omega) (by omega)]
theorem ChairsSpreads_pure : pomadelaw03_ChairsSpreads.Pure := by
  intro n _
  refine Ev.rounds ?_
  refine Ev.congr (f := fun k => (pomadelaw03_same.f k (SpreadV n).1 (SpreadV n).1).bind fun t => if t = true then (if (SpreadV n).2 = (SpreadV n).2 then ((pomadelaw03_alive.f).bind fun t => some t) else some false) else some false) (fun k => ?_) (Ev.bind (same_ev _ ?_) ?_)
  · unfold pomadelaw03_ChairsSpreads.f
    rw [Spread_val, rSpread_val]
    rfl
  · unfold SpreadV
    split
    · simp
    · have := row_short n.toNat (by omega)
      show (rowI n.toNat).length ≤ 1000000
      omega
  · exact Ev.congr (fun k => by rw [if_pos rfl, if_pos rfl]; rfl) (Ev.now true)
end Go.Proofs.Ytfopeenjpdaacaa.L
namespace Go.Proofs.Ytfopeenjpdaacaa.Pure
theorem ChairsSpreads : Go.Proofs.Ytfopeenjpdaacaa.PC.pomadelaw03_ChairsSpreads.Pure := Go.Proofs.Ytfopeenjpdaacaa.L.ChairsSpreads_pure
end Go.Proofs.Ytfopeenjpdaacaa.Pure
end
