/- The closure of the product: from a point along the strands to an outer point. -/
import Derived.Test.YtjfkompfkgjdaaaMProd
import Derived.Lib.Hide
import Derived.Outline
namespace Go.Proofs.Ytjfkompfkgjdaaa.PC
open Go.RowKit Go.Proofs.YtjfkompfkgjdaaaW.PrintWords Go.Proofs.YtjfkompfkgjdaaaW.PrintLast Go.Proofs.YtjfkompfkgjdaaaW.PrintMore
theorem heap_set {w : World} {p i : Nat} {cs : Array Value} {t : TypeId} {fr : Nat × Nat} (h : w.heap[p]? = some (.cells cs t fr)) (v : Value) : (w.setCell ⟨p, i, none⟩ v).heap[p]? = some (.cells (cs.setIfInBounds i v) t fr) := by
  show (w.heap.modify p _)[p]? = _
  rw [Array.getElem?_modify, if_pos rfl, h]
  rfl
theorem block_lt' {w : World} {p : Nat} {o : Obj} (h : w.heap[p]? = some o) : p < w.heap.size := (Array.getElem?_eq_some_iff.1 h).1
theorem ne_type {w : World} {p q : Nat} {a b : Array Value} {s t : TypeId} {f g : Nat × Nat} (h : w.heap[p]? = some (.cells a s f)) (k : w.heap[q]? = some (.cells b t g)) (hst : s ≠ t) : p ≠ q := by
  rintro rfl
  rw [h] at k
  injection k with k
  injection k with _ k
  exact hst k
/-- only block S is another one -/
structure Only (S : Nat) (w w' : World) : Prop where
  os : w'.os = w.os
  tape : w'.tape = w.tape
  output : w'.output = w.output
  size : w'.heap.size = w.heap.size
  block : ∀ k, k ≠ S → w'.heap[k]? = w.heap[k]?
theorem Only.refl (S : Nat) (w : World) : Only S w w := ⟨rfl, rfl, rfl, rfl, fun _ _ => rfl⟩
theorem Only.trans {S : Nat} {a b c : World} (h : Only S a b) (k : Only S b c) : Only S a c := ⟨k.os.trans h.os, k.tape.trans h.tape, k.output.trans h.output, k.size.trans h.size, fun i hi => (k.block i hi).trans (h.block i hi)⟩
theorem Only.set (w : World) (S i : Nat) (v : Value) : Only S w (w.setCell ⟨S, i, none⟩ v) := ⟨rfl, rfl, rfl, by simp [World.setCell], fun k hk => Below.heap_setCell w _ _ k hk⟩
theorem Only.below {S B : Nat} {w w' : World} (h : Only S w w') (hB : B ≤ S) : Below B w w' := ⟨h.os, h.tape, h.output, by rw [h.size]; exact Nat.le_refl _, fun k hk => h.block k (by omega)⟩
/-- the variables of the product: both diagrams, the size, and what has been seen -/
structure PQ (Bd Bo Bn Bs S : Nat) (sd so : Value) (n : Nat) (T : List Bool) (W : World) : Prop where
  fd : W.heap[Bd]? = some (.cells #[sd] 65 (0, 0))
  fo : W.heap[Bo]? = some (.cells #[so] 65 (0, 0))
  fn : W.heap[Bn]? = some (.cells #[.int .i64 (n : Int)] 3 (0, 0))
  fs : W.heap[Bs]? = some (.cells #[.slice (some ⟨S, 0, none⟩) n n] 69 (0, 0))
  row : W.heap[S]? = some (.cells (T.map Value.bool).toArray 4 (0, 0))
  len : T.length = n
theorem cell_one {w : World} {B : Nat} {v : Value} {t : TypeId} {fr : Nat × Nat} (h : w.heap[B]? = some (.cells #[v] t fr)) : w.cell? ⟨B, 0, none⟩ = some v := by simp [World.cell?, h]
theorem PQ.seen {Bd Bo Bn Bs S : Nat} {sd so : Value} {n : Nat} {T : List Bool} {W : World} (h : PQ Bd Bo Bn Bs S sd so n T W) (i : Nat) (hi : i < n) : W.cell? ⟨S, i, none⟩ = some (.bool (T.getD i false)) ∧ W.frozen? ⟨S, i, none⟩ = false := by
  have := h.len
  have hi' : i < T.length := by omega
  constructor
  · simp [World.cell?, h.row, List.getD_eq_getElem?_getD, hi']
  · simp [World.frozen?, h.row]
theorem PQ.only {Bd Bo Bn Bs S R : Nat} {sd so : Value} {n : Nat} {T : List Bool} {W W' : World} (h : PQ Bd Bo Bn Bs S sd so n T W) (k : Only R W W') (h1 : R ≠ Bd) (h2 : R ≠ Bo) (h3 : R ≠ Bn) (h4 : R ≠ Bs) (h5 : R ≠ S) : PQ Bd Bo Bn Bs S sd so n T W' :=
  ⟨(k.block _ (Ne.symm h1)).trans h.fd, (k.block _ (Ne.symm h2)).trans h.fo, (k.block _ (Ne.symm h3)).trans h.fn, (k.block _ (Ne.symm h4)).trans h.fs, (k.block _ (Ne.symm h5)).trans h.row, h.len⟩
theorem PQ.mark {Bd Bo Bn Bs S : Nat} {sd so : Value} {n : Nat} {T : List Bool} {W : World} (h : PQ Bd Bo Bn Bs S sd so n T W) (i : Nat) : PQ Bd Bo Bn Bs S sd so n (T.set i true) (W.setCell ⟨S, i, none⟩ (.bool true)) := by
  have k := Only.set W S i (.bool true)
  refine ⟨(k.block _ (ne_type h.fd h.row (by decide))).trans h.fd, (k.block _ (ne_type h.fo h.row (by decide))).trans h.fo, (k.block _ (ne_type h.fn h.row (by decide))).trans h.fn, (k.block _ (ne_type h.fs h.row (by decide))).trans h.fs, ?_, by rw [List.length_set]; exact h.len⟩
  rw [heap_set h.row]
  simp
set_option maxHeartbeats 4000000 in
theorem way_walk (k : Nat) (A0 : Option Addr) (c0 : Nat) (l0 : List Int) (A1 : Option Addr) (c1 : Nat) (l1 : List Int) (n len Bd Bo Bn Bs S : Nat) (w0 w : World) (hr0 : Kd.C (Kd.int .i64) w0 A0 len l0) (hr1 : Kd.C (Kd.int .i64) w0 A1 len l1)
    (hl0 : l0.length = len) (hl1 : l1.length = len) (hlen : len = 2 * n) (hn : n ≤ 1000) (hB : Below w0.heap.size w0 w) (hS : w0.heap.size ≤ S) (up : Bool) (p : Int) (T T' : List Bool) (q : Int) (hP : PQ Bd Bo Bn Bs S (.slice A0 len c0) (.slice A1 len c1) n T w)
    (h : plait_way l0 l1 n k up p T = some (q, T')) :
    Calls Try.prog 86 #[.bool up, .int .i64 p, .pointer (some ⟨Bo, 0, none⟩), .pointer (some ⟨Bd, 0, none⟩), .pointer (some ⟨Bn, 0, none⟩), .pointer (some ⟨Bs, 0, none⟩)] w fun e w' => e = .returned (.int .i64 q) ∧ PQ Bd Bo Bn Bs S (.slice A0 len c0) (.slice A1 len c1) n T' w' ∧ Only S w w' := by
  have HR0 := Lib.hid hr0
  have HR1 := Lib.hid hr1
  have HL0 := Lib.hid hl0
  have HL1 := Lib.hid hl1
  have HLN := Lib.hid hlen
  have HB := Lib.hid hB
  have HP := Lib.hid hP
  have H := Lib.hid h
  clear hr0 hr1 hl0 hl1 hlen hB hP h
  go_enter Try.func86, Try.ntmps86
  go_wp2
  go_loopg [0, 1] k (fun kq v0 v1 w' => ∃ (u1 : Bool) (p1 : Int) (T1 : List Bool), v0 = .bool u1 ∧ v1 = .int .i64 p1 ∧ Hid (plait_way l0 l1 n kq u1 p1 T1 = some (q, T')) ∧ Hid (kq ≤ k) ∧ Hid (PQ Bd Bo Bn Bs S (.slice A0 len c0) (.slice A1 len c1) n T1 w') ∧ Hid (Only S w w'))
  case atStart => exact ⟨up, p, T, rfl, rfl, H, Nat.le_refl _, HP, Lib.hid (Only.refl _ _)⟩
  case round =>
    obtain ⟨u1, p1, T1, rfl, rfl, HA, HK, HQ, HO⟩ := hrel
    cases gk with
    | zero => exact absurd HA.out (by simp [plait_way])
    | succ k1 =>
      obtain ⟨wo, rfl⟩ : ∃ wo : World, wo = wr := ⟨_, rfl⟩
      have h := HA.out
      clear HA
      simp only [plait_way] at h
      by_cases c1_ : 0 ≤ p1 ∧ p1 < (l0.length : Int)
      · rw [if_pos c1_] at h
        obtain ⟨p0, p2⟩ := c1_
        have p3 : p1 < (len : Int) := by have := HL0.out; omega
        have hbw : Below w0.heap.size w0 wo := HB.out.trans (HO.out.below hS)
        obtain ⟨a0, e0, hx0⟩ := Kd.at_int (Kd.C_below HR0.out hbw) p1 p0 p3
        obtain ⟨a1, e1, hx1⟩ := Kd.at_int (Kd.C_below HR1.out hbw) p1 p0 p3
        subst e0 e1
        have hcd := cell_one HQ.out.fd
        have hco := cell_one HQ.out.fo
        have hcn := cell_one HQ.out.fn
        have hcs := cell_one HQ.out.fs
        have d0 : decide ((0 : Int) ≤ p1) = true := decide_eq_true p0
        have d1 : decide (p1 < (len : Int)) = true := decide_eq_true p3
        have hne1 : Bn ≠ S := ne_type HQ.out.fn HQ.out.row (by decide)
        have hne2 : S ≠ Bn := Ne.symm hne1
        clear hbw p2
        cases u1 with
        | true =>
          simp only [if_true] at h
          obtain ⟨x, hx⟩ : ∃ x, rd l0 p1 = x := ⟨_, rfl⟩
          obtain ⟨y, hy⟩ : ∃ y, rd l1 p1 = y := ⟨_, rfl⟩
          rw [hx] at h
          rw [hx] at hx0
          rw [hy] at hx1
          clear hx hy
          by_cases c2 : x < (n : Int)
          · rw [if_pos (decide_eq_true c2).symm] at h
            have h2 := Option.some.inj h
            obtain ⟨rfl, rfl⟩ := Prod.mk.inj h2
            have d2 : decide (x < (n : Int)) = true := decide_eq_true c2
            clear h h2
            go_wp2
            go_ret
            exact ⟨rfl, HQ.out, HO.out⟩
          · rw [if_neg (by rw [decide_eq_false c2]; simp)] at h
            have d2 : decide (x < (n : Int)) = false := decide_eq_false c2
            by_cases c3 : 0 ≤ x ∧ 0 < n
            · rw [if_pos c3] at h
              obtain ⟨c3, c4⟩ := c3
              have hm0 : 0 ≤ x % (n : Int) := Int.emod_nonneg _ (by omega)
              have hm1 : x % (n : Int) < (n : Int) := Int.emod_lt_of_pos _ (by omega)
              have HH := Lib.hid h
              obtain ⟨hcs1, hfs1⟩ := HQ.out.seen (x % (n : Int)).toNat (by omega)
              clear h
              go_wp2
              go_roundg k1
              case measure => have := HK.out; omega
              case rel => exact ⟨_, _, _, rfl, rfl, HH, Lib.hid (by have := HK.out; omega), Lib.hid (HQ.out.mark _), Lib.hid (HO.out.trans (Only.set _ _ _ _))⟩
            · rw [if_neg c3] at h
              cases h
        | false =>
          simp only [Bool.false_eq_true, if_false] at h
          obtain ⟨x, hx⟩ : ∃ x, rd l0 p1 = x := ⟨_, rfl⟩
          obtain ⟨y, hy⟩ : ∃ y, rd l1 p1 = y := ⟨_, rfl⟩
          rw [hy] at h
          rw [hx] at hx0
          rw [hy] at hx1
          clear hx hy
          by_cases c2 : y < (n : Int)
          · rw [if_neg (by rw [decide_eq_true c2]; simp)] at h
            have d2 : decide (y < (n : Int)) = true := decide_eq_true c2
            by_cases c3 : 0 ≤ y ∧ 0 < n
            · rw [if_pos c3] at h
              obtain ⟨c3, c4⟩ := c3
              have hm0 : 0 ≤ y % (n : Int) := Int.emod_nonneg _ (by omega)
              have hm1 : y % (n : Int) < (n : Int) := Int.emod_lt_of_pos _ (by omega)
              have HH := Lib.hid h
              obtain ⟨hcs1, hfs1⟩ := HQ.out.seen (y % (n : Int)).toNat (by omega)
              clear h
              go_wp2
              go_roundg k1
              case measure => have := HK.out; omega
              case rel => exact ⟨_, _, _, rfl, rfl, HH, Lib.hid (by have := HK.out; omega), Lib.hid (HQ.out.mark _), Lib.hid (HO.out.trans (Only.set _ _ _ _))⟩
            · rw [if_neg c3] at h
              cases h
          · rw [if_pos (decide_eq_false c2).symm] at h
            have h2 := Option.some.inj h
            obtain ⟨rfl, rfl⟩ := Prod.mk.inj h2
            have d2 : decide (y < (n : Int)) = false := decide_eq_false c2
            clear h h2
            go_wp2
            go_ret
            exact ⟨rfl, HQ.out, HO.out⟩
      · rw [if_neg c1_] at h
        cases h
end Go.Proofs.Ytjfkompfkgjdaaa.PC
