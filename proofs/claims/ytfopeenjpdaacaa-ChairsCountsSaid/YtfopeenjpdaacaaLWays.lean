/- Ways: the number of good lists that lead to an order, by the program and by the specification; at least one for an order of all. -/
import Derived.Test.YtfopeenjpdaacaaLSit
import Derived.Test.YtfopeenjpdaacaaPCf20
import Derived.Test.YtfopeenjpdaacaaPCf21
namespace Go.Proofs.Ytfopeenjpdaacaa.L
open Go.RowKit Go.Proofs.Ytfopeenjpdaacaa.PC Go.Proofs.YtfopeenjpdaacaaW.PrintWords Go.Proofs.YtfopeenjpdaacaaW.PrintLast
/-- how many places right before i hold less than c -/
def runL (O : List Int) (c : Int) : Nat → Nat
  | 0 => 0
  | i + 1 => if rd O (i : Int) < c then runL O c i + 1 else 0
theorem runL_le (O : List Int) (c : Int) (i : Nat) : runL O c i ≤ i := by
  induction i with
  | zero => simp [runL]
  | succ i ih => simp only [runL]; split <;> omega
def fact : Nat → Nat
  | 0 => 1
  | n + 1 => fact n * (n + 1)
theorem fact_small : ∀ n, n < 17 → fact n ≤ 20922789888000 := by decide +kernel
theorem prun (O : List Int) (hl : O.length ≤ 1000000) (acc c : Int) (x46 : List Int) (x47 x48 : Int) (h48 : 0 ≤ x48 ∧ x48 ≤ 1000000) (r : Int × Int) (j : Nat) : ∀ (x : Nat), j ≤ O.length → x + j ≤ 1000000 →
    Ev (fun k => chairs_Ways.l1 k O (wrap64 (acc * ((x + runL O c j : Nat) : Int))) x46 x47 (x48 + 1)) r → Ev (fun k => chairs_Ways.l2 k O acc c (x : Int) ((j : Int) - 1) x46 x47 x48) r := by
  induction j with
  | zero =>
    intro x hj hx h
    refine Ev.step (fun k => ?_) h
    simp only [chairs_Ways.l2]
    rw [if_neg (by omega), w64 (x := x48 + 1) (by omega) (by omega)]
    simp [runL]
  | succ j ih =>
    intro x hj hx h
    have e : (((j + 1 : Nat) : Int) - 1) = (j : Int) := by omega
    rw [e]
    by_cases c1 : rd O (j : Int) < c
    · have h2 := ih (x + 1) (by omega) (by omega) (by
        simp only [runL] at h
        rw [if_pos c1] at h
        rw [show x + 1 + runL O c j = x + (runL O c j + 1) by omega]
        exact h)
      refine Ev.step (fun k => ?_) h2
      simp only [chairs_Ways.l2]
      rw [if_pos (by omega), if_pos (by omega), if_pos (by omega), if_pos c1, w64 (x := (x : Int) + 1) (by omega) (by omega), w64 (x := (j : Int) - 1) (by omega) (by omega)]
      rfl
    · refine Ev.step (fun k => ?_) h
      simp only [chairs_Ways.l2]
      rw [if_pos (by omega), if_pos (by omega), if_pos (by omega), if_neg c1, w64 (x := x48 + 1) (by omega) (by omega)]
      simp [runL, c1]
theorem rrun (O : List Int) (hl : O.length ≤ 1000000) (acc : Int) (i : Nat) (hi : i < O.length) (r : Int × Int) (j : Nat) : ∀ (x : Nat), x + j = i →
    Ev (fun k => pomaderef03_Ways.l1 k O (wrap64 (acc * ((x + 1 + runL O (rd O (i : Int)) j : Nat) : Int))) ((i : Int) + 1)) r → Ev (fun k => pomaderef03_Ways.l2 k O acc (i : Int) (j : Int)) r := by
  induction j with
  | zero =>
    intro x hx h
    refine Ev.step (fun k => ?_) h
    simp only [pomaderef03_Ways.l2]
    rw [if_neg (by omega), w64 (x := (i : Int) - ((0 : Nat) : Int)) (by omega) (by omega), w64 (x := (i : Int) + 1) (by omega) (by omega), w64 (x := (i : Int) - ((0 : Nat) : Int) + 1) (by omega) (by omega)]
    have e : ((x + 1 + runL O (rd O (i : Int)) 0 : Nat) : Int) = (i : Int) - ((0 : Nat) : Int) + 1 := by simp [runL]; omega
    rw [e]
  | succ j ih =>
    intro x hx h
    have e : (((j + 1 : Nat) : Int) - 1) = (j : Int) := by omega
    by_cases c1 : rd O (j : Int) < rd O (i : Int)
    · have h2 := ih (x + 1) (by omega) (by
        simp only [runL] at h
        rw [if_pos c1] at h
        rw [show x + 1 + 1 + runL O (rd O (i : Int)) j = x + 1 + (runL O (rd O (i : Int)) j + 1) by omega]
        exact h)
      refine Ev.step (fun k => ?_) h2
      simp only [pomaderef03_Ways.l2]
      rw [if_pos (by omega), w64 (x := ((j + 1 : Nat) : Int) - 1) (by omega) (by omega), e, if_pos (by omega), if_pos (by omega), if_pos (by omega), if_pos (by omega), if_pos c1]
    · refine Ev.step (fun k => ?_) h
      simp only [pomaderef03_Ways.l2]
      rw [if_pos (by omega), w64 (x := ((j + 1 : Nat) : Int) - 1) (by omega) (by omega), e, if_pos (by omega), if_pos (by omega), if_pos (by omega), if_pos (by omega), if_neg c1,
        w64 (x := (i : Int) - ((j + 1 : Nat) : Int)) (by omega) (by omega), w64 (x := (i : Int) + 1) (by omega) (by omega), w64 (x := (i : Int) - ((j + 1 : Nat) : Int) + 1) (by omega) (by omega)]
      have e2 : ((x + 1 + runL O (rd O (i : Int)) (j + 1) : Nat) : Int) = (i : Int) - ((j + 1 : Nat) : Int) + 1 := by simp [runL, c1]; omega
      rw [e2]
theorem ways_prod (O : List Int) (hl : O.length ≤ 1000000) (d : Nat) : ∀ (i : Nat) (acc : Int), i + d = O.length →
    ∃ r, Ev (fun k => chairs_Ways.l1 k O acc O (O.length : Int) (i : Int)) r ∧ Ev (fun k => pomaderef03_Ways.l1 k O acc (i : Int)) r ∧ (O.length ≤ 16 → 1 ≤ acc → acc ≤ (fact i : Int) → r.2 = 0 ∧ 1 ≤ r.1) := by
  induction d with
  | zero =>
    intro i acc hi
    refine ⟨(acc, 0), Ev.step (f := fun _ => some (acc, 0)) (fun k => ?_) (Ev.now _), Ev.step (f := fun _ => some (acc, 0)) (fun k => ?_) (Ev.now _), fun _ h _ => ⟨rfl, h⟩⟩
    · simp only [chairs_Ways.l1]; rw [if_neg (by omega)]
    · simp only [pomaderef03_Ways.l1]; rw [if_neg (by omega)]
  | succ d ih =>
    intro i acc hi
    have hru := runL_le O (rd O (i : Int)) i
    obtain ⟨r, h1, h2, h3⟩ := ih (i + 1) (wrap64 (acc * ((1 + runL O (rd O (i : Int)) i : Nat) : Int))) (by omega)
    have e : ((i + 1 : Nat) : Int) = (i : Int) + 1 := by omega
    rw [e] at h1 h2
    refine ⟨r, Ev.step (fun k => ?_) (prun O hl acc (rd O (i : Int)) O (O.length : Int) (i : Int) (by omega) r i 1 (by omega) (by omega) h1), Ev.step (fun k => ?_) (rrun O hl acc i (by omega) r i 0 (by omega) (by rw [Nat.zero_add]; exact h2)), fun hn ha hb => h3 hn ?_ ?_⟩
    · simp only [chairs_Ways.l1]
      rw [if_pos (by omega), if_pos (by omega), if_pos (by omega), w64 (x := (i : Int) - 1) (by omega) (by omega)]
      rfl
    · simp only [pomaderef03_Ways.l1]
      rw [if_pos (by omega)]
    · have hf := fact_small (i + 1) (by omega)
      obtain ⟨a, rfl⟩ : ∃ a : Nat, acc = (a : Int) := ⟨acc.toNat, by omega⟩
      have hm : a * (1 + runL O (rd O (i : Int)) i) ≤ fact i * (i + 1) := Nat.mul_le_mul (by omega) (by omega)
      have hp : 1 * 1 ≤ a * (1 + runL O (rd O (i : Int)) i) := Nat.mul_le_mul (by omega) (by omega)
      simp only [fact] at hf
      rw [← Int.natCast_mul, w64 (by omega) (by omega)]
      omega
    · have hf := fact_small (i + 1) (by omega)
      obtain ⟨a, rfl⟩ : ∃ a : Nat, acc = (a : Int) := ⟨acc.toNat, by omega⟩
      have hm : a * (1 + runL O (rd O (i : Int)) i) ≤ fact i * (i + 1) := Nat.mul_le_mul (by omega) (by omega)
      simp only [fact] at hf ⊢
      rw [← Int.natCast_mul, w64 (by omega) (by omega)]
      omega
/-- every chair once -/
def Perm0 (O : List Int) : Prop := (∀ v ∈ O, 0 ≤ v ∧ v < (O.length : Int)) ∧ O.Nodup
theorem ways_seen (O : List Int) (hl : O.length ≤ 1000000) (d : Nat) : ∀ (q : Nat) (S : List Bool), q + d = O.length → S.length = O.length →
    ∃ r, Ev (fun k => chairs_Ways.l0 k O (O.length : Int) S O (O.length : Int) (q : Int)) r ∧ Ev (fun k => pomaderef03_Ways.l0 k O S (q : Int)) r ∧ (O.length ≤ 16 → Perm0 O → (∀ j : Nat, S.getD j false = true → ((j : Int) ∈ O.take q)) → r.2 = 0 ∧ 1 ≤ r.1) := by
  induction d with
  | zero =>
    intro q S hq hS
    obtain ⟨r, h1, h2, h3⟩ := ways_prod O hl O.length 0 1 (by omega)
    refine ⟨r, Ev.step (fun k => ?_) h1, Ev.step (fun k => ?_) h2, fun hn _ _ => h3 hn (by omega) (by simp [fact])⟩
    · simp only [chairs_Ways.l0]; rw [if_neg (by omega)]; rfl
    · simp only [pomaderef03_Ways.l0]; rw [if_neg (by omega)]; rfl
  | succ d ih =>
    intro q S hq hS
    have hmem := rd_mem O q (by omega)
    by_cases c1 : rd O (q : Int) < 0
    · refine ⟨(0, 2), Ev.step (f := fun _ => some (0, 2)) (fun k => ?_) (Ev.now _), Ev.step (f := fun _ => some (0, 2)) (fun k => ?_) (Ev.now _), fun _ hp _ => by have := hp.1 _ hmem; omega⟩
      · simp only [chairs_Ways.l0]; rw [if_pos (by omega), if_pos (by omega), if_pos (by omega), if_pos c1]
      · simp only [pomaderef03_Ways.l0]; rw [if_pos (by omega), if_pos (by omega), if_pos c1]
    by_cases c2 : rd O (q : Int) ≥ (O.length : Int)
    · refine ⟨(0, 2), Ev.step (f := fun _ => some (0, 2)) (fun k => ?_) (Ev.now _), Ev.step (f := fun _ => some (0, 2)) (fun k => ?_) (Ev.now _), fun _ hp _ => by have := hp.1 _ hmem; omega⟩
      · simp only [chairs_Ways.l0]; rw [if_pos (by omega), if_pos (by omega), if_pos (by omega), if_neg c1, if_pos c2]
      · simp only [pomaderef03_Ways.l0]; rw [if_pos (by omega), if_pos (by omega), if_neg c1, if_pos c2]
    by_cases c3 : rdOf false S (rd O (q : Int)) = true
    · refine ⟨(0, 2), Ev.step (f := fun _ => some (0, 2)) (fun k => ?_) (Ev.now _), Ev.step (f := fun _ => some (0, 2)) (fun k => ?_) (Ev.now _), fun _ hp hs => ?_⟩
      · simp only [chairs_Ways.l0]; rw [if_pos (by omega), if_pos (by omega), if_pos (by omega), if_neg c1, if_neg c2, if_pos (by omega), if_pos (by omega), if_pos c3]
      · simp only [pomaderef03_Ways.l0]; rw [if_pos (by omega), if_pos (by omega), if_neg c1, if_neg c2, if_pos (by omega), if_pos (by omega), if_pos c3]
      · exfalso
        have h := hs (rd O (q : Int)).toNat c3
        rw [Int.toNat_of_nonneg (by omega)] at h
        have hn := hp.2
        rw [← List.take_append_drop q O, List.nodup_append] at hn
        refine hn.2.2 _ h _ ?_ rfl
        rw [drop_rd O q (by omega)]
        exact List.mem_cons_self
    obtain ⟨r, h1, h2, h3⟩ := ih (q + 1) (S.set (rd O (q : Int)).toNat true) (by omega) (by rw [List.length_set]; exact hS)
    refine ⟨r, Ev.step (fun k => ?_) h1, Ev.step (fun k => ?_) h2, fun hn hp hs => h3 hn hp fun j hj => ?_⟩
    · simp only [chairs_Ways.l0]
      rw [if_pos (by omega), if_pos (by omega), if_pos (by omega), if_neg c1, if_neg c2, if_pos (by omega), if_pos (by omega), if_neg c3, w64 (by omega) (by omega)]
      rfl
    · simp only [pomaderef03_Ways.l0]
      rw [if_pos (by omega), if_pos (by omega), if_neg c1, if_neg c2, if_pos (by omega), if_pos (by omega), if_neg c3, w64 (by omega) (by omega)]
      rfl
    · have e : O.take (q + 1) = O.take q ++ [rd O (q : Int)] := by
        rw [List.take_succ_eq_append_getElem (by omega)]; simp [rd, List.getD_eq_getElem?_getD, show q < O.length by omega]
      rw [e, List.mem_append, List.mem_singleton]
      by_cases g : j = (rd O (q : Int)).toNat
      · right; omega
      · left
        refine hs j ?_
        rw [List.getD_eq_getElem?_getD, List.getElem?_set_ne (Ne.symm g)] at hj
        rwa [List.getD_eq_getElem?_getD]
theorem ways_both (O : List Int) (hl : O.length ≤ 1000000) : ∃ r, Ev (fun k => chairs_Ways.f k O) r ∧ Ev (fun k => pomaderef03_Ways.f k O) r ∧ (1 ≤ O.length → O.length ≤ 16 → Perm0 O → r.2 = 0 ∧ 1 ≤ r.1) := by
  by_cases c1 : (O.length : Int) > 16
  · exact ⟨(0, 3), Ev.congr (fun k => by unfold chairs_Ways.f; rw [if_pos c1]) (Ev.now _), Ev.congr (fun k => by unfold pomaderef03_Ways.f; rw [if_pos c1]) (Ev.now _), fun _ _ => by omega⟩
  by_cases c2 : (O.length : Int) = 0
  · exact ⟨(0, 2), Ev.congr (fun k => by unfold chairs_Ways.f; rw [if_neg c1, if_pos c2]) (Ev.now _), Ev.congr (fun k => by unfold pomaderef03_Ways.f; rw [if_neg c1, if_pos c2]) (Ev.now _), fun _ _ => by omega⟩
  obtain ⟨r, h1, h2, h3⟩ := ways_seen O hl O.length 0 (List.replicate O.length false) (by omega) (by simp)
  refine ⟨r, Ev.congr (fun k => ?_) h1, Ev.congr (fun k => ?_) h2, fun _ hn hp => h3 hn hp fun j hj => ?_⟩
  · unfold chairs_Ways.f
    rw [if_neg c1, if_neg c2, if_pos (by omega), if_pos (by omega), Int.toNat_natCast]
    rfl
  · unfold pomaderef03_Ways.f
    rw [if_neg c1, if_neg c2, if_pos (by omega), if_pos (by omega), Int.toNat_natCast]
    rfl
  · rw [List.getD_eq_getElem?_getD, List.getElem?_replicate] at hj
    split at hj <;> cases hj
end Go.Proofs.Ytfopeenjpdaacaa.L
