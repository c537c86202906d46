/- Rows of pointers to numbers, and what adds to them: the plain side and the memory side. -/
import Derived.Test.YtfopeenjpdaacaaHInt
namespace Go.Proofs.Ytfopeenjpdaacaa.PC
open Go.RowKit Go.Proofs.YtfopeenjpdaacaaW.PrintWords Go.Proofs.YtfopeenjpdaacaaW.PrintLast Go.Proofs.YtfopeenjpdaacaaW.PrintMore
def ptr (p : Nat) : Value := .pointer (some ⟨p, 0, none⟩)
/-- a row of pointers -/
def PRow (W : World) (q : Nat) (ps : List Nat) : Prop := W.heap[q]? = some (.cells (ps.map ptr).toArray 66 (0, 0))
/-- a row of numbers -/
structure NRow (W : World) (q : Nat) (ps vs : List Nat) : Prop where
  row : PRow W q ps
  len : ps.length = vs.length
  num : ∀ i, i < vs.length → Num W (ps.getD i 0) (vs.getD i 0)
def RowV (W : World) (v : Value) (vs : List Nat) : Prop := ∃ q ps, v = .slice (some ⟨q, 0, none⟩) vs.length vs.length ∧ NRow W q ps vs
theorem PRow.below {W W' : World} {q : Nat} {ps : List Nat} (h : PRow W q ps) {n : Nat} (hb : Below n W W') (hq : q < n) : PRow W' q ps := (hb.block q hq).trans h
theorem PRow.lt {W : World} {q : Nat} {ps : List Nat} (h : PRow W q ps) : q < W.heap.size := (Array.getElem?_eq_some_iff.1 h).1
theorem PRow.cell {W : World} {q : Nat} {ps : List Nat} (h : PRow W q ps) (i : Nat) (hi : i < ps.length) : W.cell? ⟨q, i, none⟩ = some (.pointer (some ⟨ps.getD i 0, 0, none⟩)) := by
  have h' : W.heap[q]? = _ := h
  simp [World.cell?, h', hi, ptr, List.getD_eq_getElem?_getD]
theorem NRow.below {W W' : World} {q : Nat} {ps vs : List Nat} (h : NRow W q ps vs) (hb : Below W.heap.size W W') : NRow W' q ps vs :=
  ⟨h.row.below hb h.row.lt, h.len, fun i hi => (h.num i hi).below hb⟩
theorem RowV.below {W W' : World} {v : Value} {vs : List Nat} (h : RowV W v vs) (hb : Below W.heap.size W W') : RowV W' v vs := by
  obtain ⟨q, ps, e, h⟩ := h
  exact ⟨q, ps, e, h.below hb⟩
/-- what the iterator does to the world: it makes blocks, or writes a row of pointers or a number -/
def Stp (B0 : Nat) (A B : World) : Prop := ∃ row, A.grownBy B row ∧ ∀ r, row = some r → B0 ≤ r ∧ ∃ cells t, A.heap[r]? = some (.cells cells t (0, 0)) ∧ (t = 65 ∨ t = 66 ∨ t = 82)
theorem Stp.of_below {B0 : Nat} {A B : World} (h : Below A.heap.size A B) : Stp B0 A B := ⟨none, grown_of_below h none, fun r e => by cases e⟩
theorem Stp.of_num {B0 : Nat} {A B : World} {p : Nat} (hp : Slot A p) (hB : B0 ≤ p) (h : A.grownBy B (some p)) : Stp B0 A B := ⟨some p, h, fun r e => by
  cases e
  obtain ⟨b, s, hp⟩ := hp
  exact ⟨hB, _, _, hp, .inr (.inr rfl)⟩⟩
/-- the state of a round: all that lay below H is as it was in Wr, the row that is being made, and what the caller keeps -/
structure RSt (J : World → Prop) (Wr : World) (q : Nat) (ps vs : List Nat) (W : World) : Prop where
  below : Below Wr.heap.size Wr W
  row : NRow W q ps vs
  nodup : ps.Nodup
  hq : Wr.heap.size ≤ q
  hp : ∀ p ∈ ps, Wr.heap.size ≤ p
  j : J W
def Stable (B0 : Nat) (J : World → Prop) : Prop := ∀ A B, J A → Stp B0 A B → J B
theorem RSt.later {B0 : Nat} {J : World → Prop} (hJ : Stable B0 J) {Wr W W' : World} {q : Nat} {ps vs : List Nat} (h : RSt J Wr q ps vs W) (hb : Below W.heap.size W W') : RSt J Wr q ps vs W' :=
  ⟨h.below.trans (hb.mono h.below.size), h.row.below hb, h.nodup, h.hq, h.hp, hJ _ _ h.j (.of_below hb)⟩
theorem getD_mem {l : List Nat} {i : Nat} (h : i < l.length) : l.getD i 0 ∈ l := by simp [List.getD_eq_getElem?_getD, h]
theorem RSt.add {B0 : Nat} {J : World → Prop} (hJ : Stable B0 J) {Wr W W' : World} (hB0 : B0 ≤ Wr.heap.size) {q : Nat} {ps vs : List Nat} (h : RSt J Wr q ps vs W) {i v : Nat} (hi : i < vs.length) (hg : W.grownBy W' (some (ps.getD i 0))) (hn : Num W' (ps.getD i 0) v) : RSt J Wr q ps (vs.set i v) W' := by
  have hs := (h.row.num i hi).slot
  have hi' : i < ps.length := by rw [h.row.len]; exact hi
  have hpi := h.hp _ (getD_mem hi')
  refine ⟨⟨hg.os.trans h.below.os, hg.tape.trans h.below.tape, hg.output.trans h.below.output, Nat.le_trans h.below.size hg.size, fun b hb => ?_⟩, ⟨?_, by rw [List.length_set]; exact h.row.len, fun j hj => ?_⟩, h.nodup, h.hq, h.hp, hJ _ _ h.j (.of_num hs (Nat.le_trans hB0 hpi) hg)⟩
  · refine (hg.block b (by have := h.below.size; omega) (by rintro e; cases e; omega)).trans (h.below.block b hb)
  · have hr : W.heap[q]? = _ := h.row.row
    refine (hg.block q h.row.row.lt ?_).trans hr
    rintro e
    injection e with e
    obtain ⟨b, s, hs⟩ := hs
    rw [← e, hr] at hs
    injection hs with hs
    injection hs with _ h2
    cases h2
  · rw [List.length_set] at hj
    by_cases e : j = i
    · subst e
      rw [show (vs.set j v).getD j 0 = v by simp [List.getD_eq_getElem?_getD, hj]]
      exact hn
    · rw [show (vs.set i v).getD j 0 = vs.getD j 0 by simp [List.getD_eq_getElem?_getD, List.getElem?_set_ne (Ne.symm e)]]
      refine (h.row.num j hj).grown hs (fun e2 => e ?_) hg
      have hj' : j < ps.length := by rw [h.row.len]; exact hj
      simp only [List.getD_eq_getElem?_getD, List.getElem?_eq_getElem hj', List.getElem?_eq_getElem hi', Option.getD_some] at e2
      exact (List.getElem_inj h.nodup).1 e2
end Go.Proofs.Ytfopeenjpdaacaa.PC
