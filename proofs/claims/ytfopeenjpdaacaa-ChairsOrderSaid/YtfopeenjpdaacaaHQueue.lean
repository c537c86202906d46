/- The queue of the program: numbers that wait, behind a pointer: contracts of put and take. -/
import Derived.Test.YtfopeenjpdaacaaHBig
import Derived.Test.YtfopeenjpdaacaaWQPut
namespace Go.Proofs.Ytfopeenjpdaacaa.PC
open Go.RowKit Go.Proofs.YtfopeenjpdaacaaW.PrintWords Go.Proofs.YtfopeenjpdaacaaW.PrintLast Go.Proofs.YtfopeenjpdaacaaW.PrintMore
/-- the numbers that wait: the variable lies in block B, its numbers in a block beyond it -/
def QVar (W : World) (B : Nat) (xs : List Int) : Prop := ∃ v, W.heap[B]? = some (.cells #[v] 69 (0, 0)) ∧ (Kd.int .i64).Q 3 W (B + 1) (fun _ => True) v xs
theorem q_far {W : World} {B : Nat} {v : Value} {xs : List Int} (h : (Kd.int .i64).Q 3 W (B + 1) (fun _ => True) v xs) (u : Value) : (Kd.int .i64).Q 3 (W.setCell ⟨B, 0, none⟩ u) (B + 1) (fun _ => True) v xs :=
  Kd.Q_mono (Kd.Q_far (ok := fun k => B + 1 ≤ k) (p := ⟨B, 0, none⟩) (Kd.Q_mono (Kd.Q_bound h) (fun k hk => hk.2.1)) (fun k hk => (by omega : k ≠ B)) u) (fun _ _ => trivial)
theorem info3q : (Try.prog.info? 3).map (fun i => (i.zero, i.size, i.bytes)) = some (some (.int .i64 0), 1, 8) := by kernel_rfl
theorem hset {w : World} {p i : Nat} {cs : Array Value} {t : TypeId} {fr : Nat × Nat} (h : w.heap[p]? = some (.cells cs t fr)) (v : Value) : (w.setCell ⟨p, i, none⟩ v).heap[p]? = some (.cells (cs.setIfInBounds i v) t fr) := by
  show (w.heap.modify p _)[p]? = _
  rw [Array.getElem?_modify, if_pos rfl, h]
  rfl
set_option maxHeartbeats 400000 in
theorem put_walk (B : Nat) (x : Int) (xs : List Int) (w : World) (h : QVar w B xs) (hl : xs.length ≤ 1000) :
    Calls Try.prog 60 #[.pointer (some ⟨B, 0, none⟩), .int .i64 x] w fun e w' => e = .returned (.tuple #[]) ∧ QVar w' B (xs ++ [x]) ∧ Below B w w' := by
  obtain ⟨v, hB, hQ⟩ := h
  have hc : w.cell? ⟨B, 0, none⟩ = some v := by simp [World.cell?, hB]
  have hBl : B < w.heap.size := (Array.getElem?_eq_some_iff.1 hB).1
  have HB := Lib.hid hB
  have HQ := Lib.hid hQ
  clear hB hQ
  go_enter Try.func60, Try.ntmps60
  go_wp2_with (first | (at_builtin; refine Kd.Q_append (w0 := w) (Kd.int .i64) (B + 1) rfl (.tmp 7) (.tmp 9) 69 3 (.int .i64 0) 8 rfl Try.underlying69 info3q rfl (by decide) (by decide) v xs x [.int .i64 x] (fun _ => True) (fun _ => False) rfl rfl rfl (fun _ hk => hk.elim) (fun _ _ => trivial) HQ.out (Below.refl _ _) (by omega) (by omega) ?_; intro v1 w1 hq1 hb1 hg1 _; obtain ⟨A1, c1, rfl, _⟩ := Kd.Q_slice hq1; have hB1 := (hb1.block B (by omega)).trans HB.out; have hc1 : w1.cell? ⟨B, 0, none⟩ = some v := (by simp [World.cell?, hB1]); have hf1 : w1.frozen? ⟨B, 0, none⟩ = false := (by simp [World.frozen?, hB1]); have HB1 := Lib.hid hB1; have HQ1 := Lib.hid hq1; have HBL := Lib.hid hb1; clear hB1 hq1 hb1 hg1))
  go_end0
  exact ⟨rfl, ⟨_, hset HB1.out _, q_far (by simpa using HQ1.out) _⟩, (HBL.out.mono (Nat.le_succ B)).setCell (p := ⟨B, 0, none⟩) (Nat.le_refl _) _⟩
set_option maxHeartbeats 400000 in
theorem take_walk (B : Nat) (y : Int) (ys : List Int) (w : World) (h : QVar w B (y :: ys)) :
    Calls Try.prog 61 #[.pointer (some ⟨B, 0, none⟩)] w fun e w' => e = .returned (.tuple #[.int .i64 y, .bool true]) ∧ QVar w' B ys ∧ Below B w w' := by
  obtain ⟨v, hB, hQ⟩ := h
  obtain ⟨g, o, cap, e, hg, hgl, _⟩ := Kd.Q_form hQ (by simp)
  subst e
  have hc : w.cell? ⟨B, 0, none⟩ = some (.slice (some ⟨g, o, none⟩) (y :: ys).length cap) := by simp [World.cell?, hB]
  have hf : w.frozen? ⟨B, 0, none⟩ = false := by simp [World.frozen?, hB]
  have hx := (Kd.Q_cell 0 hQ 0 (by omega) (by simp)).1
  have hx' : w.cell? ⟨g, o, none⟩ = some (.int .i64 y) := hx
  have hne : g ≠ B := by omega
  obtain ⟨n, hn⟩ : ∃ n, (y :: ys).length = n := ⟨_, rfl⟩
  have hn1 : n = ys.length + 1 := by rw [← hn]; rfl
  obtain ⟨i3, hi3, hz3⟩ := Option.map_eq_some_iff.1 info3q
  simp only [Prod.mk.injEq] at hz3
  have hdrop := Kd.Q_drop (k := 1) hQ (by simp)
  rw [hn] at hc hdrop
  have hcut := cut_from (P := Try.prog) 69 3 .i64 Try.underlying69 hi3 1 hz3.2.1 (some ⟨g, o, none⟩) n cap 1 (by omega) (by omega)
  have hx1 : (1 : Int).toNat = 1 := rfl
  rw [hx1] at hcut
  obtain ⟨A', hA'⟩ : ∃ A', (if cap = 1 then some (⟨g, o, none⟩ : Addr) else (some (⟨g, o, none⟩ : Addr)).map (·.add (1 * 1))) = A' := ⟨_, rfl⟩
  rw [hA'] at hcut
  have hA'' : (if cap = 1 then some (⟨g, o, none⟩ : Addr) else (some (⟨g, o, none⟩ : Addr)).map (·.add (1 * (Kd.int .i64).sz))) = A' := hA'
  rw [hA''] at hdrop
  have HD := Lib.hid hdrop
  have HB := Lib.hid hB
  have d1 : ((n : Int) == 0) = false := beq_eq_false_iff_ne.2 (by omega)
  have hn0 : (0 : Int) < (n : Int) := by omega
  have hn2 : (1 : Int) ≤ (n : Int) := by omega
  clear hQ hx hdrop hB hA' hA'' hn hn1 hz3
  go_enter Try.func61, Try.ntmps61
  go_wp2
  go_ret2
  refine ⟨rfl, ⟨_, hset HB.out _, q_far HD.out _⟩, (Below.refl _ _).setCell (p := ⟨B, 0, none⟩) (Nat.le_refl _) _⟩
set_option maxHeartbeats 400000 in
theorem take_none (B : Nat) (w : World) (h : QVar w B []) :
    Calls Try.prog 61 #[.pointer (some ⟨B, 0, none⟩)] w fun e w' => e = .returned (.tuple #[.int .i64 0, .bool false]) ∧ w = w' := by
  obtain ⟨v, hB, hQ⟩ := h
  obtain ⟨A, c, e, _⟩ := Kd.Q_slice hQ
  subst e
  have hc : w.cell? ⟨B, 0, none⟩ = some (.slice A 0 c) := by simp [World.cell?, hB]
  clear hB hQ
  go_enter Try.func61, Try.ntmps61
  go_wp2
  go_ret2
  exact ⟨rfl, rfl⟩
end Go.Proofs.Ytfopeenjpdaacaa.PC
