-- Printed by a program of this session (mkprint.sh, over the kit's print.py), with own proofs for the functions that the print does not take.
import Derived.Test.YtgbalmjnjpfopaaPCg1
import Derived.Test.YtgbalmjnjpfopaaPCx0
import Derived.Outline
import Derived.ArgAppend
import Derived.Test.YtgbalmjnjpfopaaHBack
namespace Go.Proofs.Ytgbalmjnjpfopaa.PC
open Go.RowKit Go.Proofs.YtgbalmjnjpfopaaW.PrintWords Go.Proofs.YtgbalmjnjpfopaaW.PrintLast Go.Proofs.YtgbalmjnjpfopaaW.PrintMore
attribute [local go_sem] max2_int min2_int max_two min_two max_three min_three max_four min_four   -- for this text's walks alone
set_option linter.unusedVariables false
set_option linter.unusedSimpArgs false

/-! ### coins_Extend: function 24 -/
/-- what Extend comes to -/
def coins_Extend.f (k : Nat) (l0 : List Int) (a1 : Int) : Option (Bool × Int) :=
  (coins_valid.f k l0).bind fun t => if t = true then (if 0 < l0.length ∧ l0.length ≤ 15 then (if a1 ≤ rd l0 ((l0.length : Int) - 1) then some (false, 4) else if a1 > 5000 then some (false, 4) else if l0.length = 15 then some (false, 8) else (coins_fails.f k (l0 ++ [a1])).bind fun t => some (t == 0, 0)) else none) else some (false, 2)
theorem coins_Extend.mono : ∀ a0 a1 k, LeO (coins_Extend.f k a0 a1) (coins_Extend.f (k + 1) a0 a1) := fun a0 a1 k =>
  LeO.bind (coins_valid.mono _ k) (fun _ => LeO.ite (LeO.ite (LeO.ite (LeO.refl _) (LeO.ite (LeO.refl _) (LeO.ite (LeO.refl _) (LeO.bind (coins_fails.mono _ k) (fun _ => LeO.refl _))))) (LeO.refl _)) (LeO.refl _))

section
set_option maxHeartbeats 400000 in
theorem coins_Extend.bad (k : Nat) (A0 : Option Addr) (c0 : Nat) (l0 : List Int) (a1 : Int) (w : World) (hr0 : Kd.C (Kd.int .i64) w A0 l0.length l0) (hc0 : l0.length ≤ c0) (h : coins_valid.f k l0 = some false) :
    Calls Try.prog 24 #[.slice A0 l0.length c0, .int .i64 a1] w fun e w' => e = .returned (.tuple #[.bool false, .int .i64 2]) ∧ Below w.heap.size w w' := by
  have HR := Lib.hid hr0
  have HV := Lib.hid h
  clear hr0 h
  go_enter Try.func24, Try.ntmps24
  go_wp2_with (go_at_call 34; refine (coins_valid.calls k A0 c0 l0 false _ HR.out hc0 HV.out).mono ?_; rintro e w' ⟨rfl, ⟨nd, rfl⟩⟩)
  go_ret2
  exact ⟨rfl, pw_below_drewN (Below.refl _ _) _⟩
set_option maxHeartbeats 400000 in
theorem coins_Extend.early (k : Nat) (A0 : Option Addr) (c0 : Nat) (l0 : List Int) (a1 : Int) (w : World) (hr0 : Kd.C (Kd.int .i64) w A0 l0.length l0) (hc0 : l0.length ≤ c0) (h : coins_valid.f k l0 = some true) (h1 : 0 < l0.length) (h2 : l0.length ≤ 15) (c : Int) (hc : (a1 ≤ rd l0 ((l0.length : Int) - 1) ∧ c = 4) ∨ (¬ a1 ≤ rd l0 ((l0.length : Int) - 1) ∧ a1 > 5000 ∧ c = 4) ∨ (¬ a1 ≤ rd l0 ((l0.length : Int) - 1) ∧ ¬ a1 > 5000 ∧ l0.length = 15 ∧ c = 8)) :
    Calls Try.prog 24 #[.slice A0 l0.length c0, .int .i64 a1] w fun e w' => e = .returned (.tuple #[.bool false, .int .i64 c]) ∧ Below w.heap.size w w' := by
  obtain ⟨ad, e, hx⟩ := Kd.at_int hr0 ((l0.length : Int) - 1) (by omega) (by omega)
  subst e
  obtain ⟨q, hq⟩ : ∃ q : Nat, (l0.length : Int) - 1 = (q : Int) := ⟨l0.length - 1, by omega⟩
  rw [hq] at hx hc
  rw [Int.toNat_natCast] at hx
  obtain ⟨lv, hlv⟩ : ∃ lv, rd l0 (q : Int) = lv := ⟨_, rfl⟩
  rw [hlv] at hx hc
  have hql : q < l0.length := by omega
  have HR := Lib.hid hr0
  have HV := Lib.hid h
  have HQ := Lib.hid hq
  clear hr0 h hlv
  rcases hc with ⟨g1, rfl⟩ | ⟨g1, g2, rfl⟩ | ⟨g1, g2, g3, rfl⟩
  · have d1 : decide (a1 ≤ lv) = true := decide_eq_true g1
    clear hq
    go_enter Try.func24, Try.ntmps24
    go_wp2_with (go_at_call 34; refine (coins_valid.calls k _ c0 l0 true _ HR.out hc0 HV.out).mono ?_; rintro e w' ⟨rfl, ⟨nd, rfl⟩⟩; have hq := HQ.out)
    go_ret2
    exact ⟨rfl, pw_below_drewN (Below.refl _ _) _⟩
  · have d1 : decide (a1 ≤ lv) = false := decide_eq_false g1
    have d2 : decide (5000 < a1) = true := decide_eq_true g2
    clear hq
    go_enter Try.func24, Try.ntmps24
    go_wp2_with (go_at_call 34; refine (coins_valid.calls k _ c0 l0 true _ HR.out hc0 HV.out).mono ?_; rintro e w' ⟨rfl, ⟨nd, rfl⟩⟩; have hq := HQ.out)
    go_ret2
    exact ⟨rfl, pw_below_drewN (Below.refl _ _) _⟩
  · have d1 : decide (a1 ≤ lv) = false := decide_eq_false g1
    have d2 : decide (5000 < a1) = false := decide_eq_false g2
    have d3 : ((l0.length : Int) == 15) = true := beq_iff_eq.2 (by omega)
    have G3 := Lib.hid g3
    clear hq g3
    go_enter Try.func24, Try.ntmps24
    go_wp2_with (go_at_call 34; refine (coins_valid.calls k _ c0 l0 true _ HR.out hc0 HV.out).mono ?_; rintro e w' ⟨rfl, ⟨nd, rfl⟩⟩; have hq := HQ.out)
    go_ret2
    exact ⟨rfl, pw_below_drewN (Below.refl _ _) _⟩
set_option maxHeartbeats 1000000 in
theorem coins_Extend.late (k : Nat) (A0 : Option Addr) (c0 : Nat) (l0 : List Int) (a1 : Int) (r : Int) (w : World) (hr0 : Kd.C (Kd.int .i64) w A0 l0.length l0) (hc0 : l0.length ≤ c0) (h : coins_valid.f k l0 = some true) (h1 : 0 < l0.length) (h2 : l0.length ≤ 15) (g1 : ¬ a1 ≤ rd l0 ((l0.length : Int) - 1)) (g2 : ¬ a1 > 5000) (g3 : ¬ l0.length = 15) (hf : coins_fails.f k (l0 ++ [a1]) = some r) :
    Calls Try.prog 24 #[.slice A0 l0.length c0, .int .i64 a1] w fun e w' => e = .returned (.tuple #[.bool (r == 0), .int .i64 0]) ∧ Below w.heap.size w w' := by
  obtain ⟨ad, e, hx⟩ := Kd.at_int hr0 ((l0.length : Int) - 1) (by omega) (by omega)
  subst e
  obtain ⟨q, hq⟩ : ∃ q : Nat, (l0.length : Int) - 1 = (q : Int) := ⟨l0.length - 1, by omega⟩
  rw [hq] at hx g1
  rw [Int.toNat_natCast] at hx
  obtain ⟨lv, hlv⟩ : ∃ lv, rd l0 (q : Int) = lv := ⟨_, rfl⟩
  rw [hlv] at hx g1
  have hql : q < l0.length := by omega
  have HR := Lib.hid hr0
  have HV := Lib.hid h
  have HQ := Lib.hid hq
  have HF := Lib.hid hf
  have d1 : decide (a1 ≤ lv) = false := decide_eq_false g1
  have d2 : decide (5000 < a1) = false := decide_eq_false g2
  have d3 : ((l0.length : Int) == 15) = false := beq_eq_false_iff_ne.2 (by omega)
  clear hr0 h hlv hq hf
  obtain ⟨i0, hi0, hz0, hz1, hz2⟩ := info_parts info3
  have hcs : ∀ (j : Nat) (u : Value), (l0.map (Value.int .i64))[j]? = some u → w.cell? (ad.add j) = some u := by
    intro j u hj
    obtain ⟨hl, hv⟩ := List.getElem?_eq_some_iff.1 hj
    simp at hl hv
    obtain ⟨ad', e', hx'⟩ := Kd.at_int HR.out (j : Int) (by omega) (by omega)
    cases e'
    rw [Int.toNat_natCast] at hx'
    rw [hx', ← hv]
    simp [rd, List.getD_eq_getElem?_getD, hl]
  have HCS := Lib.hid hcs
  clear hcs
  have hlm : (l0.map (Value.int .i64)).length = l0.length * 1 := by simp
  have HLM := Lib.hid hlm
  clear hlm
  have hbw : ∀ (nd : Nat) (o : Obj), Below w.heap.size w ((w.drewN nd).alloc o) := fun nd o => (pw_below_drewN (Below.refl _ w) nd).alloc (Nat.le_refl _) _
  have HBW := Lib.hid hbw
  clear hbw
  have hnew : ∀ (nd : Nat), ((w.drewN nd).alloc (Obj.cells #[Value.int .i64 a1] 3)).cell? ⟨w.heap.size, 0, none⟩ = some (.int .i64 a1) := by
    intro nd
    have e : (w.drewN nd).heap.size = w.heap.size := by simp
    rw [World.cell?_alloc_at _ _ _ _ (by simp)]; rfl
  have HNEW := Lib.hid hnew
  clear hnew
  go_enter Try.func24, Try.ntmps24
  go_wp2_with (first | (go_at_call 34; refine (coins_valid.calls k _ c0 l0 true _ HR.out hc0 HV.out).mono ?_; rintro e w' ⟨rfl, ⟨nd, rfl⟩⟩; have hq := HQ.out) | ((with_reducible refine wpList_append_grows _ rfl (.tmp 32) (.tmp 34) 22 rfl 3 i0 (.int .i64 0) 1 8 Try.underlying22 hi0 hz0 hz1 hz2 rfl (by decide) (some ad) l0.length l0.length (l0.map (.int .i64)) rfl ?c0 HLM.out ?c1 ⟨w.heap.size, 0, none⟩ 1 1 [.int .i64 a1] rfl rfl ?c2 ?c3 ?c4 ?c5 ?c6 ?_); (case c0 => intro h; cases h); (case c1 => intro b hb j u hj; cases hb; exact ((HBW.out _ _).cell (World.block_lt_of_cell? w _ (HCS.out j u hj))).trans (HCS.out j u hj)); (case c2 => intro j u hj; cases j with | zero => (simp at hj; subst hj; simpa [Addr.add] using HNEW.out _) | succ j => simp at hj); (case c3 => intro u hu; simp at hu; subst hu; rfl); (case c4 => omega); (case c5 => simp only [maxLen]; omega); (case c6 => omega); intro v' w2 hown hgr) | fail)
  have hb2 : Below w.heap.size w w2 := (HBW.out nd _).grown hgr (by simp) (fun k h => by cases h)
  have hR : Kd.R (Kd.int .i64) 3 w2 _ (fun _ => True) v' (l0 ++ [a1]) := Kd.R_of_own (enc := Value.int .i64) (by simpa [encs] using hown) (fun _ _ => trivial)
  obtain ⟨A, c, rfl, hle, hC⟩ := Kd.R_reads hR
  clear hR hown hgr
  refine (coins_fails.calls k A c (l0 ++ [a1]) r w2 hC hle HF.out).mono ?_
  rintro e w' ⟨rfl, hb⟩
  have hb3 : Below w.heap.size w w' := below_step hb2 hb
  clear hb hb2 hC hle
  go_wp2
  go_ret2
  exact ⟨rfl, hb3⟩
set_option maxHeartbeats 400000 in
theorem coins_Extend.calls (k : Nat) (A0 : Option Addr) (c0 : Nat) (l0 : List Int) (a1 : Int) (r1 : Bool) (r2 : Int) (w : World) (hr0 : Kd.C (Kd.int .i64) w A0 l0.length l0) (hc0 : l0.length ≤ c0) (h : coins_Extend.f k l0 a1 = some (r1, r2)) :
    Calls Try.prog 24 #[.slice A0 l0.length c0, .int .i64 a1] w fun e w' => e = .returned (.tuple #[.bool r1, .int .i64 r2]) ∧ Below w.heap.size w w' := by
  unfold coins_Extend.f at h
  obtain ⟨t, ht, h⟩ := Option.bind_eq_some_iff.1 h
  cases t with
  | false =>
    rw [if_neg (by simp)] at h
    obtain ⟨rfl, rfl⟩ := Prod.mk.inj (Option.some.inj h)
    exact coins_Extend.bad k A0 c0 l0 a1 w hr0 hc0 ht
  | true =>
    rw [if_pos rfl] at h
    by_cases h1 : 0 < l0.length ∧ l0.length ≤ 15
    · rw [if_pos h1] at h
      by_cases g1 : a1 ≤ rd l0 ((l0.length : Int) - 1)
      · rw [if_pos g1] at h
        obtain ⟨rfl, rfl⟩ := Prod.mk.inj (Option.some.inj h)
        exact coins_Extend.early k A0 c0 l0 a1 w hr0 hc0 ht h1.1 h1.2 4 (.inl ⟨g1, rfl⟩)
      rw [if_neg g1] at h
      by_cases g2 : a1 > 5000
      · rw [if_pos g2] at h
        obtain ⟨rfl, rfl⟩ := Prod.mk.inj (Option.some.inj h)
        exact coins_Extend.early k A0 c0 l0 a1 w hr0 hc0 ht h1.1 h1.2 4 (.inr (.inl ⟨g1, g2, rfl⟩))
      rw [if_neg g2] at h
      by_cases g3 : l0.length = 15
      · rw [if_pos g3] at h
        obtain ⟨rfl, rfl⟩ := Prod.mk.inj (Option.some.inj h)
        exact coins_Extend.early k A0 c0 l0 a1 w hr0 hc0 ht h1.1 h1.2 8 (.inr (.inr ⟨g1, g2, g3, rfl⟩))
      rw [if_neg g3] at h
      obtain ⟨r, hf, h⟩ := Option.bind_eq_some_iff.1 h
      obtain ⟨rfl, rfl⟩ := Prod.mk.inj (Option.some.inj h)
      exact coins_Extend.late k A0 c0 l0 a1 r w hr0 hc0 ht h1.1 h1.2 g1 g2 g3 hf
    · rw [if_neg h1] at h
      cases h
end


end Go.Proofs.Ytgbalmjnjpfopaa.PC
