/- Parts of the proof of LawPlaitStrands, one behind the other: PCx0 MProd HWay PCg2 HProd PCf66 PCf27 PCf44 PCg3 HRen HTurn PCf46 PCg4 MShort. -/
import Derived.Test.YtjfkompfkgjdaaaProg
import Derived.Below
import Derived.Deep.Draws
import Derived.Deep.AppendLies
import Derived.Maps.AppendAt
import Derived.OwnWalk
import Derived.Laws.BytesArg
import Derived.Laws.MakeOwn
import Derived.Laws.OwnMore
import Derived.Deep.OwnRows
import Derived.Tactics
import Derived.Lib.ConvBytes
import Derived.Laws.Slices
import Derived.WalkKit
import Derived.KernelRfl
import Derived.RowKit3
import Derived.Deep.LoopGhost
import Derived.Deep.QuietTactic
import Derived.BigQuiet
import Derived.WideLaws
import Derived.Deep.DeepCutAuto
import Derived.Deep.CutBlock
import Derived.Deep.RegionHeld3
import Derived.Laws.Rows
import Derived.Lib.AppendStr
import Derived.ArgAppend
import Derived.Laws.IdiomCopy
import Derived.OrdersHeld
import Derived.Laws.BitsLemmas
import Derived.RowKit
import Derived.Lib.Hide
import Derived.Outline
import Derived.IntWalk
import Derived.Shelf.Abstract
import Derived.Lib.SliceRun
import Derived.Test.YtjfkompfkgjdaaaJPlaitStrands1
section
namespace Go.Proofs.Ytjfkompfkgjdaaa.PC
open Go.RowKit Go.Proofs.YtjfkompfkgjdaaaW.PrintWords Go.Proofs.YtjfkompfkgjdaaaW.PrintLast Go.Proofs.YtjfkompfkgjdaaaW.PrintMore
attribute [local go_sem] max2_int min2_int max_two min_two max_three min_three max_four min_four   -- for this text's walks alone
set_option linter.unusedVariables false
set_option linter.unusedSimpArgs false
def errW : Option Int → Value
  | none => .nilIface
  | some c => .iface 0 (.int .i64 c)
theorem errW_none : errW none = .nilIface := rfl
theorem errW_some (c : Int) : errW (some c) = .iface 0 (.int .i64 c) := rfl
theorem info3 : (Try.prog.info? 3).map (fun i => (i.zero, i.size, i.bytes)) = some (some (.int .i64 0), 1, 8) := by kernel_rfl
theorem info4 : (Try.prog.info? 4).map (fun i => (i.zero, i.size, i.bytes)) = some (some (.bool false), 1, 1) := by kernel_rfl
theorem info5 : (Try.prog.info? 5).map (fun i => (i.zero, i.size, i.bytes)) = some (some (.int .u8 0), 1, 1) := by kernel_rfl
theorem info22 : (Try.prog.info? 22).map (fun i => (i.zero, i.size, i.bytes)) = some (some (.slice none 0 0), 1, 24) := by kernel_rfl
def rd_L3 (xs : List (List Int)) (i : Int) : (List Int) := xs.getD i.toNat ([] : List Int)
theorem at_L3 {w : World} {A : Option Addr} {n : Nat} {xs : List (List Int)} (h : Kd.C (Kd.slice 3 (Kd.int .i64)) w A n xs) (i : Int) (h0 : 0 ≤ i) (h1 : i < n) : ∃ ad A0 c0, A = some ad ∧ w.cell? (ad.add i.toNat) = some (.slice A0 (rd_L3 xs i).length c0) ∧ (rd_L3 xs i).length ≤ c0 ∧ (Kd.int .i64).C w A0 (rd_L3 xs i).length (rd_L3 xs i) := by
  obtain ⟨ad, c, e, _, hK, hc0⟩ := Kd.C_get h ([] : List Int) i h0 h1
  have hc : ∀ j u, c[j]? = some u → w.cell? (ad.add (i.toNat * 1 + j)) = some u := hc0
  obtain ⟨A0, c0, rfl, l0, g0⟩ := hK
  exact ⟨ad, A0, c0, e, by have hq := hc 0 _ rfl; rwa [Nat.mul_one, Nat.add_zero] at hq, l0, g0⟩
end Go.Proofs.Ytjfkompfkgjdaaa.PC
end
section
/- The product of two diagrams, as the program makes it: plain. -/
namespace Go.Proofs.Ytjfkompfkgjdaaa.PC
open Go.RowKit Go.Proofs.YtjfkompfkgjdaaaW.PrintWords Go.Proofs.YtjfkompfkgjdaaaW.PrintLast Go.Proofs.YtjfkompfkgjdaaaW.PrintMore
/-- the way through the strands from a point to an outer point; a middle point is seen once on its way -/
def plait_way (d o : List Int) (n : Nat) : Nat → Bool → Int → List Bool → Option (Int × List Bool)
  | 0, _, _, _ => none
  | k + 1, up, p, T =>
    if 0 ≤ p ∧ p < (d.length : Int) then
      (if up = decide ((if up = true then rd d p else rd o p) < (n : Int)) then some (if up = true then rd d p else rd o p, T)
       else if 0 ≤ (if up = true then rd d p else rd o p) ∧ 0 < n then
         plait_way d o n k (!up) (if up = true then (if up = true then rd d p else rd o p) % (n : Int) else (if up = true then rd d p else rd o p) % (n : Int) + (n : Int)) (T.set ((if up = true then rd d p else rd o p) % (n : Int)).toNat true)
       else none)
    else none
def plait_ways (d o : List Int) (n : Nat) : Nat → Nat → List Int → List Bool → Option (List Int × List Bool)
  | 0, _, out, T => some (out, T)
  | k + 1, i, out, T => (plait_way d o n (2 * n + 2) true (i : Int) T).bind fun a => (plait_way d o n (2 * n + 2) false (((n + i : Nat)) : Int) a.2).bind fun b => plait_ways d o n k (i + 1) ((out.set i a.1).set (n + i) b.1) b.2
/-- once around a loop in the middle -/
def plait_round (d o : List Int) (n : Nat) : Nat → Int → List Bool → Option (List Bool)
  | 0, _, _ => none
  | k + 1, at_, T =>
    if 0 ≤ at_ ∧ at_ < (n : Int) then
      (if T.getD at_.toNat false = true then some T
       else if 0 ≤ rd o at_ ∧ rd o at_ < (n : Int) then plait_round d o n k (wrap64 (rd d (rd o at_ + (n : Int)) - (n : Int))) ((T.set at_.toNat true).set (rd o at_).toNat true)
       else none)
    else none
def plait_loops (d o : List Int) (n : Nat) : Nat → Nat → Nat → List Bool → Option Nat
  | 0, _, many, _ => some many
  | k + 1, i, many, T => if T.getD i false = true then plait_loops d o n k (i + 1) many T else (plait_round d o n (n + 1) (i : Int) T).bind fun T' => plait_loops d o n k (i + 1) (many + 1) T'
end Go.Proofs.Ytjfkompfkgjdaaa.PC
end
section
/- The closure of the product: from a point along the strands to an outer point. -/
namespace Go.Proofs.Ytjfkompfkgjdaaa.PC
open Go.RowKit Go.Proofs.YtjfkompfkgjdaaaW.PrintWords Go.Proofs.YtjfkompfkgjdaaaW.PrintLast Go.Proofs.YtjfkompfkgjdaaaW.PrintMore
theorem heap_set {w : World} {p i : Nat} {cs : Array Value} {t : TypeId} {fr : Nat × Nat} (h : w.heap[p]? = some (.cells cs t fr)) (v : Value) : (w.setCell ⟨p, i, none⟩ v).heap[p]? = some (.cells (cs.setIfInBounds i v) t fr) := by
  show (w.heap.modify p _)[p]? = _
  rw [Array.getElem?_modify, if_pos rfl, h]
  rfl
theorem block_lt' {w : World} {p : Nat} {o : Obj} (h : w.heap[p]? = some o) : p < w.heap.size := (Array.getElem?_eq_some_iff.1 h).1
theorem ne_type {w : World} {p q : Nat} {a b : Array Value} {s t : TypeId} {f g : Nat × Nat} (h : w.heap[p]? = some (.cells a s f)) (k : w.heap[q]? = some (.cells b t g)) (hst : s ≠ t) : p ≠ q := by
  rintro rfl
  rw [h] at k
  injection k with k
  injection k with _ k
  exact hst k
/-- only block S is another one -/
structure Only (S : Nat) (w w' : World) : Prop where
  os : w'.os = w.os
  tape : w'.tape = w.tape
  output : w'.output = w.output
  size : w'.heap.size = w.heap.size
  block : ∀ k, k ≠ S → w'.heap[k]? = w.heap[k]?
theorem Only.refl (S : Nat) (w : World) : Only S w w := ⟨rfl, rfl, rfl, rfl, fun _ _ => rfl⟩
theorem Only.trans {S : Nat} {a b c : World} (h : Only S a b) (k : Only S b c) : Only S a c := ⟨k.os.trans h.os, k.tape.trans h.tape, k.output.trans h.output, k.size.trans h.size, fun i hi => (k.block i hi).trans (h.block i hi)⟩
theorem Only.set (w : World) (S i : Nat) (v : Value) : Only S w (w.setCell ⟨S, i, none⟩ v) := ⟨rfl, rfl, rfl, by simp [World.setCell], fun k hk => Below.heap_setCell w _ _ k hk⟩
theorem Only.below {S B : Nat} {w w' : World} (h : Only S w w') (hB : B ≤ S) : Below B w w' := ⟨h.os, h.tape, h.output, by rw [h.size]; exact Nat.le_refl _, fun k hk => h.block k (by omega)⟩
/-- the variables of the product: both diagrams, the size, and what has been seen -/
structure PQ (Bd Bo Bn Bs S : Nat) (sd so : Value) (n : Nat) (T : List Bool) (W : World) : Prop where
  fd : W.heap[Bd]? = some (.cells #[sd] 65 (0, 0))
  fo : W.heap[Bo]? = some (.cells #[so] 65 (0, 0))
  fn : W.heap[Bn]? = some (.cells #[.int .i64 (n : Int)] 3 (0, 0))
  fs : W.heap[Bs]? = some (.cells #[.slice (some ⟨S, 0, none⟩) n n] 69 (0, 0))
  row : W.heap[S]? = some (.cells (T.map Value.bool).toArray 4 (0, 0))
  len : T.length = n
theorem cell_one {w : World} {B : Nat} {v : Value} {t : TypeId} {fr : Nat × Nat} (h : w.heap[B]? = some (.cells #[v] t fr)) : w.cell? ⟨B, 0, none⟩ = some v := by simp [World.cell?, h]
theorem PQ.seen {Bd Bo Bn Bs S : Nat} {sd so : Value} {n : Nat} {T : List Bool} {W : World} (h : PQ Bd Bo Bn Bs S sd so n T W) (i : Nat) (hi : i < n) : W.cell? ⟨S, i, none⟩ = some (.bool (T.getD i false)) ∧ W.frozen? ⟨S, i, none⟩ = false := by
  have := h.len
  have hi' : i < T.length := by omega
  constructor
  · simp [World.cell?, h.row, List.getD_eq_getElem?_getD, hi']
  · simp [World.frozen?, h.row]
theorem PQ.only {Bd Bo Bn Bs S R : Nat} {sd so : Value} {n : Nat} {T : List Bool} {W W' : World} (h : PQ Bd Bo Bn Bs S sd so n T W) (k : Only R W W') (h1 : R ≠ Bd) (h2 : R ≠ Bo) (h3 : R ≠ Bn) (h4 : R ≠ Bs) (h5 : R ≠ S) : PQ Bd Bo Bn Bs S sd so n T W' :=
  ⟨(k.block _ (Ne.symm h1)).trans h.fd, (k.block _ (Ne.symm h2)).trans h.fo, (k.block _ (Ne.symm h3)).trans h.fn, (k.block _ (Ne.symm h4)).trans h.fs, (k.block _ (Ne.symm h5)).trans h.row, h.len⟩
theorem PQ.mark {Bd Bo Bn Bs S : Nat} {sd so : Value} {n : Nat} {T : List Bool} {W : World} (h : PQ Bd Bo Bn Bs S sd so n T W) (i : Nat) : PQ Bd Bo Bn Bs S sd so n (T.set i true) (W.setCell ⟨S, i, none⟩ (.bool true)) := by
  have k := Only.set W S i (.bool true)
  refine ⟨(k.block _ (ne_type h.fd h.row (by decide))).trans h.fd, (k.block _ (ne_type h.fo h.row (by decide))).trans h.fo, (k.block _ (ne_type h.fn h.row (by decide))).trans h.fn, (k.block _ (ne_type h.fs h.row (by decide))).trans h.fs, ?_, by rw [List.length_set]; exact h.len⟩
  rw [heap_set h.row]
  simp
set_option maxHeartbeats 4000000 in
theorem way_walk (k : Nat) (A0 : Option Addr) (c0 : Nat) (l0 : List Int) (A1 : Option Addr) (c1 : Nat) (l1 : List Int) (n len Bd Bo Bn Bs S : Nat) (w0 w : World) (hr0 : Kd.C (Kd.int .i64) w0 A0 len l0) (hr1 : Kd.C (Kd.int .i64) w0 A1 len l1)
    (hl0 : l0.length = len) (hl1 : l1.length = len) (hlen : len = 2 * n) (hn : n ≤ 1000) (hB : Below w0.heap.size w0 w) (hS : w0.heap.size ≤ S) (up : Bool) (p : Int) (T T' : List Bool) (q : Int) (hP : PQ Bd Bo Bn Bs S (.slice A0 len c0) (.slice A1 len c1) n T w)
    (h : plait_way l0 l1 n k up p T = some (q, T')) :
    Calls Try.prog 86 #[.bool up, .int .i64 p, .pointer (some ⟨Bo, 0, none⟩), .pointer (some ⟨Bd, 0, none⟩), .pointer (some ⟨Bn, 0, none⟩), .pointer (some ⟨Bs, 0, none⟩)] w fun e w' => e = .returned (.int .i64 q) ∧ PQ Bd Bo Bn Bs S (.slice A0 len c0) (.slice A1 len c1) n T' w' ∧ Only S w w' := by
  have HR0 := Lib.hid hr0
  have HR1 := Lib.hid hr1
  have HL0 := Lib.hid hl0
  have HL1 := Lib.hid hl1
  have HLN := Lib.hid hlen
  have HB := Lib.hid hB
  have HP := Lib.hid hP
  have H := Lib.hid h
  clear hr0 hr1 hl0 hl1 hlen hB hP h
  go_enter Try.func86, Try.ntmps86
  go_wp2
  go_loopg [0, 1] k (fun kq v0 v1 w' => ∃ (u1 : Bool) (p1 : Int) (T1 : List Bool), v0 = .bool u1 ∧ v1 = .int .i64 p1 ∧ Hid (plait_way l0 l1 n kq u1 p1 T1 = some (q, T')) ∧ Hid (kq ≤ k) ∧ Hid (PQ Bd Bo Bn Bs S (.slice A0 len c0) (.slice A1 len c1) n T1 w') ∧ Hid (Only S w w'))
  case atStart => exact ⟨up, p, T, rfl, rfl, H, Nat.le_refl _, HP, Lib.hid (Only.refl _ _)⟩
  case round =>
    obtain ⟨u1, p1, T1, rfl, rfl, HA, HK, HQ, HO⟩ := hrel
    cases gk with
    | zero => exact absurd HA.out (by simp [plait_way])
    | succ k1 =>
      obtain ⟨wo, rfl⟩ : ∃ wo : World, wo = wr := ⟨_, rfl⟩
      have h := HA.out
      clear HA
      simp only [plait_way] at h
      by_cases c1_ : 0 ≤ p1 ∧ p1 < (l0.length : Int)
      · rw [if_pos c1_] at h
        obtain ⟨p0, p2⟩ := c1_
        have p3 : p1 < (len : Int) := by have := HL0.out; omega
        have hbw : Below w0.heap.size w0 wo := HB.out.trans (HO.out.below hS)
        obtain ⟨a0, e0, hx0⟩ := Kd.at_int (Kd.C_below HR0.out hbw) p1 p0 p3
        obtain ⟨a1, e1, hx1⟩ := Kd.at_int (Kd.C_below HR1.out hbw) p1 p0 p3
        subst e0 e1
        have hcd := cell_one HQ.out.fd
        have hco := cell_one HQ.out.fo
        have hcn := cell_one HQ.out.fn
        have hcs := cell_one HQ.out.fs
        have d0 : decide ((0 : Int) ≤ p1) = true := decide_eq_true p0
        have d1 : decide (p1 < (len : Int)) = true := decide_eq_true p3
        have hne1 : Bn ≠ S := ne_type HQ.out.fn HQ.out.row (by decide)
        have hne2 : S ≠ Bn := Ne.symm hne1
        clear hbw p2
        cases u1 with
        | true =>
          simp only [if_true] at h
          obtain ⟨x, hx⟩ : ∃ x, rd l0 p1 = x := ⟨_, rfl⟩
          obtain ⟨y, hy⟩ : ∃ y, rd l1 p1 = y := ⟨_, rfl⟩
          rw [hx] at h
          rw [hx] at hx0
          rw [hy] at hx1
          clear hx hy
          by_cases c2 : x < (n : Int)
          · rw [if_pos (decide_eq_true c2).symm] at h
            have h2 := Option.some.inj h
            obtain ⟨rfl, rfl⟩ := Prod.mk.inj h2
            have d2 : decide (x < (n : Int)) = true := decide_eq_true c2
            clear h h2
            go_wp2
            go_ret
            exact ⟨rfl, HQ.out, HO.out⟩
          · rw [if_neg (by rw [decide_eq_false c2]; simp)] at h
            have d2 : decide (x < (n : Int)) = false := decide_eq_false c2
            by_cases c3 : 0 ≤ x ∧ 0 < n
            · rw [if_pos c3] at h
              obtain ⟨c3, c4⟩ := c3
              have hm0 : 0 ≤ x % (n : Int) := Int.emod_nonneg _ (by omega)
              have hm1 : x % (n : Int) < (n : Int) := Int.emod_lt_of_pos _ (by omega)
              have HH := Lib.hid h
              obtain ⟨hcs1, hfs1⟩ := HQ.out.seen (x % (n : Int)).toNat (by omega)
              clear h
              go_wp2
              go_roundg k1
              case measure => have := HK.out; omega
              case rel => exact ⟨_, _, _, rfl, rfl, HH, Lib.hid (by have := HK.out; omega), Lib.hid (HQ.out.mark _), Lib.hid (HO.out.trans (Only.set _ _ _ _))⟩
            · rw [if_neg c3] at h
              cases h
        | false =>
          simp only [Bool.false_eq_true, if_false] at h
          obtain ⟨x, hx⟩ : ∃ x, rd l0 p1 = x := ⟨_, rfl⟩
          obtain ⟨y, hy⟩ : ∃ y, rd l1 p1 = y := ⟨_, rfl⟩
          rw [hy] at h
          rw [hx] at hx0
          rw [hy] at hx1
          clear hx hy
          by_cases c2 : y < (n : Int)
          · rw [if_neg (by rw [decide_eq_true c2]; simp)] at h
            have d2 : decide (y < (n : Int)) = true := decide_eq_true c2
            by_cases c3 : 0 ≤ y ∧ 0 < n
            · rw [if_pos c3] at h
              obtain ⟨c3, c4⟩ := c3
              have hm0 : 0 ≤ y % (n : Int) := Int.emod_nonneg _ (by omega)
              have hm1 : y % (n : Int) < (n : Int) := Int.emod_lt_of_pos _ (by omega)
              have HH := Lib.hid h
              obtain ⟨hcs1, hfs1⟩ := HQ.out.seen (y % (n : Int)).toNat (by omega)
              clear h
              go_wp2
              go_roundg k1
              case measure => have := HK.out; omega
              case rel => exact ⟨_, _, _, rfl, rfl, HH, Lib.hid (by have := HK.out; omega), Lib.hid (HQ.out.mark _), Lib.hid (HO.out.trans (Only.set _ _ _ _))⟩
            · rw [if_neg c3] at h
              cases h
          · rw [if_pos (decide_eq_false c2).symm] at h
            have h2 := Option.some.inj h
            obtain ⟨rfl, rfl⟩ := Prod.mk.inj h2
            have d2 : decide (y < (n : Int)) = false := decide_eq_false c2
            clear h h2
            go_wp2
            go_ret
            exact ⟨rfl, HQ.out, HO.out⟩
      · rw [if_neg c1_] at h
        cases h
end Go.Proofs.Ytjfkompfkgjdaaa.PC
end
section
namespace Go.Proofs.Ytjfkompfkgjdaaa.PC
open Go.RowKit Go.Proofs.YtjfkompfkgjdaaaW.PrintWords Go.Proofs.YtjfkompfkgjdaaaW.PrintLast Go.Proofs.YtjfkompfkgjdaaaW.PrintMore
attribute [local go_sem] max2_int min2_int max_two min_two max_three min_three max_four min_four   -- for this text's walks alone
set_option linter.unusedVariables false
set_option linter.unusedSimpArgs false
/-! ### plait_border: function 70 -/
mutual
def plait_border.l0 : Nat → Int → List Int → Int → Int → Option (List Int)
 | 0, _, _, _, _ => none
 | k + 1, x0, x3, x6, x7 => if x7 < x6 then (if x3.length < 17592186044416 then (plait_border.l0 k x0 (x3 ++ [x7]) x6 (wrap64 (x7 + 1))) else (none)) else (plait_border.l1 k x0 x3 x0 0)
def plait_border.l1 : Nat → Int → List Int → Int → Int → Option (List Int)
 | 0, _, _, _, _ => none
 | k + 1, x0, x3, x15, x16 => if x16 < x15 then (if x3.length < 17592186044416 then (plait_border.l1 k x0 (x3 ++ [wrap64 ((wrap64 ((wrap64 (2 * x0)) - 1)) - x16)]) x15 (wrap64 (x16 + 1))) else (none)) else (some x3)
end
def plait_border.f (k : Nat) (a0 : Int) : Option (List Int) := plait_border.l0 k a0 ([] : List Int) a0 0
theorem plait_border.mono_l : ∀ k, (∀ y0 y1 y2 y3, LeO (plait_border.l0 k y0 y1 y2 y3) (plait_border.l0 (k + 1) y0 y1 y2 y3)) ∧ (∀ y0 y1 y2 y3, LeO (plait_border.l1 k y0 y1 y2 y3) (plait_border.l1 (k + 1) y0 y1 y2 y3))
 | 0 => ⟨fun _ _ _ _ r h => by simp [plait_border.l0] at h, fun _ _ _ _ r h => by simp [plait_border.l1] at h⟩
 | k + 1 => by
  obtain ⟨ih0, ih1⟩ := plait_border.mono_l k
  refine ⟨?_, ?_⟩
  ·intro y0 y1 y2 y3
   unfold plait_border.l0
   repeat' first
   | (with_reducible exact ih0 _ _ _ _)
   | (with_reducible exact ih1 _ _ _ _)
   | (with_reducible exact LeO.refl _)
   | (with_reducible exact LeO.none _)
   | (with_reducible refine LeO.ite ?_ ?_)
   | (with_reducible refine LeO.bind ?_ (fun _ => ?_))
   | exact ih0 _ _ _ _
   | exact ih1 _ _ _ _
   | exact LeO.none _
   | refine LeO.ite ?_ ?_
   | refine LeO.bind ?_ (fun _ => ?_)
  ·intro y0 y1 y2 y3
   unfold plait_border.l1
   repeat' first
   | (with_reducible exact ih0 _ _ _ _)
   | (with_reducible exact ih1 _ _ _ _)
   | (with_reducible exact LeO.refl _)
   | (with_reducible exact LeO.none _)
   | (with_reducible refine LeO.ite ?_ ?_)
   | (with_reducible refine LeO.bind ?_ (fun _ => ?_))
   | exact ih0 _ _ _ _
   | exact ih1 _ _ _ _
   | exact LeO.none _
   | refine LeO.ite ?_ ?_
   | refine LeO.bind ?_ (fun _ => ?_)
theorem plait_border.mono : ∀ a0 k, LeO (plait_border.f k a0) (plait_border.f (k + 1) a0) := by
 intro a0 k
 obtain ⟨ih0, ih1⟩ := plait_border.mono_l k
 unfold plait_border.f
 repeat' first
   | (with_reducible exact ih0 _ _ _ _)
   | (with_reducible exact ih1 _ _ _ _)
   | (with_reducible exact LeO.refl _)
   | (with_reducible exact LeO.none _)
   | (with_reducible refine LeO.ite ?_ ?_)
   | (with_reducible refine LeO.bind ?_ (fun _ => ?_))
   | exact ih0 _ _ _ _
   | exact ih1 _ _ _ _
   | exact LeO.none _
   | refine LeO.ite ?_ ?_
   | refine LeO.bind ?_ (fun _ => ?_)
set_option maxHeartbeats 8000000 in
set_option maxRecDepth 100000 in
theorem plait_border.calls (k : Nat) (a0 : Int) (r : List Int) (w : World) (h : plait_border.f k a0 = some r) :
  Calls Try.prog 70 #[.int .i64 a0] w fun e w' => ∃ v0_ : Value, e = .returned (v0_) ∧ Kd.R (Kd.int .i64) 3 w' w.heap.size (fun _ => True) v0_ r ∧ Below w.heap.size w w' := by
 have HB := Aside0.mk (Below.refl w.heap.size w)
 have H : (plait_border.l0 k a0 ([] : List Int) a0 0) = some r := h
 clear h
 have H' := Aside0.mk H
 clear H
 go_enter Try.func70, Try.ntmps70
 go_wp2
 go_loopg [3, 7] k (fun kq v3 v7 w' => ∃ (x3_1 : List Int) (x7_1 : Int), v7 = .int .i64 x7_1 ∧ Aside0 (plait_border.l0 kq a0 x3_1 a0 x7_1 = some r) ∧ Aside0 (kq ≤ k) ∧ Aside0 (Kd.R (Kd.int .i64) 3 w' w.heap.size (fun _ => True) v3 x3_1) ∧ Aside0 (Below w.heap.size w w'))
 case atStart => exact ⟨(([] : List Int)), (0), (by first | rfl | (simp; done) | (simp [*]; done)), H', ⟨Nat.le_refl _⟩, ⟨by first | exact Kd.R_nil _ _ _ _ _ | exact Kd.N_nil _ _ _ _ _ | exact Kd.V_nil _ _ _ _ _ | exact Kd.Q_nil _ _ _ _ _ | exact Kd.S_nil _ _ _ _ _⟩, ⟨by repeat (first | (with_reducible first | exact HB.out | apply below_alloc | apply pw_below_drewN | apply below_drew1) | exact HB.out)⟩⟩
 case round =>
  clear H'
  obtain ⟨x3_1, x7_1, rfl, HA, HK1, HO_3, HB⟩ := hrel
  cases gk with
  | zero => exact absurd HA.out (by simp [plait_border.l0])
  | succ k1 =>
   have H := HA.out
   clear HA
   simp only [plait_border.l0] at H
   by_cases c2 : x7_1 < a0
   ·rw [if_pos c2] at H
    have c2b0 : decide (x7_1 < a0) = true := decide_eq_true c2
    clear c2
    by_cases c3 : x3_1.length < 17592186044416
    ·rw [if_pos c3] at H
     have LMc3 := Aside0.mk c3
     clear c3
     obtain ⟨y101, hy101⟩ : ∃ y_ : List Int, y_ = (x3_1 ++ [x7_1]) := ⟨_, rfl⟩
     replace H : (plait_border.l0 k1 a0 y101 a0 (wrap64 (x7_1 + 1))) = some r := by first | (rw [hy101]; with_reducible exact H) | (have H2_ := (Option.bind_some _ _).symm.trans H; rw [hy101]; with_reducible exact H2_) | (have H2_ := (Option.bind_some _ _).symm.trans H; with_reducible exact H2_) | with_reducible exact H | (rw [hy101]; exact H) | exact H
     have Ny101 := Aside0.mk hy101
     clear hy101
     have H' := Aside0.mk H
     clear H
     go_wp2_with (first | ((with_reducible refine gate_builtin (b := .append) (xs := #[.tmp 10, .tmp 12]) rfl ?_); at_builtin; refine Kd.R_append (Kd.int .i64) (w0 := w) w.heap.size rfl (.tmp 10) (.tmp 12) 22 3 (.int .i64 0) 8 rfl Try.underlying22 info3 rfl (by decide) (by omega) u3 x3_1 x7_1 [.int .i64 x7_1] (fun _ => True) (fun _ => False) rfl rfl ?aP (fun _ hk => hk.elim) ?aF ?aO ?aB ?aS ?aL ?_; (case aP => exact rfl); (case aB => exact (by repeat (first | (with_reducible first | exact HB.out | apply below_alloc | apply pw_below_drewN | apply below_drew1) | exact HB.out))); (case aF => exact (fun _ _ => trivial)); (case aO => exact (by (with_reducible repeat (first | apply Kd.R_alloc | apply Kd.R_drewN | apply Kd.R_drew)); exact HO_3.out)); (case aS => exact (below_size (by repeat (first | (with_reducible first | exact HB.out | apply below_alloc | apply pw_below_drewN | apply below_drew1) | exact HB.out)))); (case aL => have := LMc3.out; omega); intro v102 w4 ho hb hg hat; rw [← Ny101.out] at ho; have n0_ := Aside0.mk (hb); have n1_ := Aside0.mk (ho); clear HB; clear HO_3; have HB := n0_; have HO103 := n1_; clear n0_ n1_; clear ho hb hg hat))
     go_roundg k1
     case measure => have := HK1.out; omega
     case rel => exact ⟨(y101), (wrap64 (x7_1 + 1)), (by first | rfl | (simp; done) | (simp [*]; done)), H', ⟨by have := HK1.out; omega⟩, ⟨by (with_reducible repeat (first | apply Kd.R_alloc | apply Kd.R_drewN | apply Kd.R_drew)); exact HO103.out⟩, ⟨by repeat (first | (with_reducible first | exact HB.out | apply below_alloc | apply pw_below_drewN | apply below_drew1) | exact HB.out)⟩⟩
    ·rw [if_neg c3] at H
     exact absurd H (by simp)
   ·rw [if_neg c2] at H
    have c2b0 : decide (x7_1 < a0) = false := decide_eq_false c2
    clear c2
    have H' := Aside0.mk H
    clear H
    go_wp2
    go_loopg [3, 16] k1 (fun kq v3 v16 w' => ∃ (x3_2 : List Int) (x16_2 : Int), v16 = .int .i64 x16_2 ∧ Aside0 (plait_border.l1 kq a0 x3_2 a0 x16_2 = some r) ∧ Aside0 (kq ≤ k1) ∧ Aside0 (Kd.R (Kd.int .i64) 3 w' w.heap.size (fun _ => True) v3 x3_2) ∧ Aside0 (Below w.heap.size w w'))
    case atStart => exact ⟨(x3_1), (0), (by first | rfl | (simp; done) | (simp [*]; done)), H', ⟨Nat.le_refl _⟩, ⟨by (with_reducible repeat (first | apply Kd.R_alloc | apply Kd.R_drewN | apply Kd.R_drew)); exact HO_3.out⟩, ⟨by repeat (first | (with_reducible first | exact HB.out | apply below_alloc | apply pw_below_drewN | apply below_drew1) | exact HB.out)⟩⟩
    case round =>
     clear H'
     try clear c2
     try clear c2b0
     try clear p2
     try clear c3
     obtain ⟨x3_2, x16_2, rfl, HA, HK2, HO_3, HB⟩ := hrel
     cases gk with
     | zero => exact absurd HA.out (by simp [plait_border.l1])
     | succ k2 =>
      have H := HA.out
      clear HA
      simp only [plait_border.l1] at H
      by_cases c5 : x16_2 < a0
      ·rw [if_pos c5] at H
       have c5b0 : decide (x16_2 < a0) = true := decide_eq_true c5
       clear c5
       by_cases c6 : x3_2.length < 17592186044416
       ·rw [if_pos c6] at H
        have LMc6 := Aside0.mk c6
        clear c6
        obtain ⟨y104, hy104⟩ : ∃ y_ : List Int, y_ = (x3_2 ++ [wrap64 ((wrap64 ((wrap64 (2 * a0)) - 1)) - x16_2)]) := ⟨_, rfl⟩
        replace H : (plait_border.l1 k2 a0 y104 a0 (wrap64 (x16_2 + 1))) = some r := by first | (rw [hy104]; with_reducible exact H) | (have H2_ := (Option.bind_some _ _).symm.trans H; rw [hy104]; with_reducible exact H2_) | (have H2_ := (Option.bind_some _ _).symm.trans H; with_reducible exact H2_) | with_reducible exact H | (rw [hy104]; exact H) | exact H
        have Ny104 := Aside0.mk hy104
        clear hy104
        have H' := Aside0.mk H
        clear H
        go_wp2_with (first | ((with_reducible refine gate_builtin (b := .append) (xs := #[.tmp 19, .tmp 25]) rfl ?_); at_builtin; refine Kd.R_append (Kd.int .i64) (w0 := w) w.heap.size rfl (.tmp 19) (.tmp 25) 22 3 (.int .i64 0) 8 rfl Try.underlying22 info3 rfl (by decide) (by omega) u3 x3_2 (wrap64 ((wrap64 ((wrap64 (2 * a0)) - 1)) - x16_2)) [.int .i64 (wrap64 ((wrap64 ((wrap64 (2 * a0)) - 1)) - x16_2))] (fun _ => True) (fun _ => False) rfl rfl ?aP (fun _ hk => hk.elim) ?aF ?aO ?aB ?aS ?aL ?_; (case aP => exact rfl); (case aB => exact (by repeat (first | (with_reducible first | exact HB.out | apply below_alloc | apply pw_below_drewN | apply below_drew1) | exact HB.out))); (case aF => exact (fun _ _ => trivial)); (case aO => exact (by (with_reducible repeat (first | apply Kd.R_alloc | apply Kd.R_drewN | apply Kd.R_drew)); exact HO_3.out)); (case aS => exact (below_size (by repeat (first | (with_reducible first | exact HB.out | apply below_alloc | apply pw_below_drewN | apply below_drew1) | exact HB.out)))); (case aL => have := LMc6.out; omega); intro v105 w7 ho hb hg hat; rw [← Ny104.out] at ho; have n0_ := Aside0.mk (hb); have n1_ := Aside0.mk (ho); clear HB; clear HO_3; have HB := n0_; have HO106 := n1_; clear n0_ n1_; clear ho hb hg hat))
        go_roundg k2
        case measure => have := HK1.out; have := HK2.out; omega
        case rel => exact ⟨(y104), (wrap64 (x16_2 + 1)), (by first | rfl | (simp; done) | (simp [*]; done)), H', ⟨by have := HK1.out; have := HK2.out; omega⟩, ⟨by (with_reducible repeat (first | apply Kd.R_alloc | apply Kd.R_drewN | apply Kd.R_drew)); exact HO106.out⟩, ⟨by repeat (first | (with_reducible first | exact HB.out | apply below_alloc | apply pw_below_drewN | apply below_drew1) | exact HB.out)⟩⟩
       ·rw [if_neg c6] at H
        exact absurd H (by simp)
      ·rw [if_neg c5] at H
       have c5b0 : decide (x16_2 < a0) = false := decide_eq_false c5
       clear c5
       obtain rfl := Option.some.inj H
       go_wp2
       go_ret
       exact ⟨_, by first | rfl | (simp [errW_none, errW_some] <;> rfl) | (simp [*, errW_none, errW_some] <;> rfl), by (with_reducible repeat (first | apply Kd.R_alloc | apply Kd.R_drewN | apply Kd.R_drew)); exact HO_3.out, by repeat (first | (with_reducible first | exact HB.out | apply below_alloc | apply pw_below_drewN | apply below_drew1) | exact HB.out)⟩
/-! ### plait_diagram_size: function 72 -/
def plait_diagram_size.f (l0 : List Int) : Option (Int) := some (wrap64 ((l0.length : Int) / 2))
set_option maxHeartbeats 8000000 in
set_option maxRecDepth 100000 in
theorem plait_diagram_size.calls (A0 : Option Addr) (c0 : Nat) (l0 : List Int) (r : Int) (w : World) (hr0 : Kd.C (Kd.int .i64) w A0 l0.length l0) (hc0 : l0.length ≤ c0) (h : plait_diagram_size.f l0 = some r) :
  Calls Try.prog 72 #[.slice A0 l0.length c0] w fun e w' => e = .returned (.int .i64 r) ∧ Drawn0 w w' := by
 have HR0 := Aside0.mk hr0
 have HC0 := Aside0.mk hc0
 clear hr0 hc0
 have H : (some (wrap64 ((l0.length : Int) / 2))) = some r := h
 clear h
 obtain rfl := Option.some.inj H
 go_enter Try.func72, Try.ntmps72
 go_wp2
 go_ret
 exact ⟨by first | rfl | (simp; done) | (simp [*]; done), by repeat (first | exact Drawn0.refl _ | apply Drawn0.step)⟩
/-! ### plait_diagram_arches: function 71 -/
mutual
def plait_diagram_arches.j0 : Nat → List Int → Bool → Option (ByteArray × Bool)
 | 0, _, _ => none
 | k + 1, x0, x17 => if x17 = true then (some ((⟨#[]⟩ : ByteArray), false)) else ((plait_diagram_size.f x0).bind fun t107 => ((plait_border.f k t107).bind fun t108 => (plait_diagram_arches.l0 k x0 ([] : List Int) ([] : List Int) t108 (t108.length : Int) 0)))
def plait_diagram_arches.l0 : Nat → List Int → List Int → List Int → List Int → Int → Int → Option (ByteArray × Bool)
 | 0, _, _, _, _, _, _ => none
 | k + 1, x0, x4, x5, x20, x21, x22 => if x22 < x21 then (if 0 ≤ x22 then (if x22 < (x20.length : Int) then (if 0 ≤ (rd x20 x22) then (if (rd x20 x22) < (x0.length : Int) then (if (rd x0 (rd x20 x22)) < 0 then (plait_diagram_arches.j2 k x0 x4 x5 (rd x20 x22) (rd x0 (rd x20 x22)) x20 x21 x22 true) else (if (rd x0 (rd x20 x22)) ≥ (x0.length : Int) then (plait_diagram_arches.j2 k x0 x4 x5 (rd x20 x22) (rd x0 (rd x20 x22)) x20 x21 x22 true) else (if (rd x0 (rd x20 x22)) = (rd x20 x22) then (plait_diagram_arches.j2 k x0 x4 x5 (rd x20 x22) (rd x0 (rd x20 x22)) x20 x21 x22 true) else (if 0 ≤ (rd x0 (rd x20 x22)) then (if (rd x0 (rd x20 x22)) < (x0.length : Int) then (plait_diagram_arches.j2 k x0 x4 x5 (rd x20 x22) (rd x0 (rd x20 x22)) x20 x21 x22 ((rd x0 (rd x0 (rd x20 x22))) != (rd x20 x22))) else (none)) else (none))))) else (none)) else (none)) else (none)) else (none)) else (some (strOfNums x5, ((x4.length : Int) == 0)))
def plait_diagram_arches.j2 : Nat → List Int → List Int → List Int → Int → Int → List Int → Int → Int → Bool → Option (ByteArray × Bool)
 | 0, _, _, _, _, _, _, _, _, _ => none
 | k + 1, x0, x4, x5, x7, x8, x20, x21, x22, x37 => if x37 = true then (some ((⟨#[]⟩ : ByteArray), false)) else (if (x4.length : Int) > 0 then (if 0 ≤ (wrap64 ((x4.length : Int) - 1)) then (if (wrap64 ((x4.length : Int) - 1)) < (x4.length : Int) then (if (rd x4 (wrap64 ((x4.length : Int) - 1))) = x8 then (if (wrap64 ((x4.length : Int) - 1)) ≤ (x4.length : Int) then (if x5.length < 140737488355328 then (plait_diagram_arches.l0 k x0 (x4.take ((wrap64 ((x4.length : Int) - 1)) : Int).toNat) (x5 ++ [41]) x20 x21 (wrap64 (x22 + 1))) else (none)) else (none)) else (if x4.length < 17592186044416 then (if x5.length < 140737488355328 then (plait_diagram_arches.l0 k x0 (x4 ++ [x7]) (x5 ++ [40]) x20 x21 (wrap64 (x22 + 1))) else (none)) else (none))) else (none)) else (none)) else (if x4.length < 17592186044416 then (if x5.length < 140737488355328 then (plait_diagram_arches.l0 k x0 (x4 ++ [x7]) (x5 ++ [40]) x20 x21 (wrap64 (x22 + 1))) else (none)) else (none)))
end
def plait_diagram_arches.f (k : Nat) (l0 : List Int) : Option (ByteArray × Bool) := if (l0.length : Int) = 0 then (plait_diagram_arches.j0 k l0 true) else (plait_diagram_arches.j0 k l0 (((l0.length : Int) % 2) != 0))
theorem plait_diagram_arches.mono_l : ∀ k, (∀ y0 y1, LeO (plait_diagram_arches.j0 k y0 y1) (plait_diagram_arches.j0 (k + 1) y0 y1)) ∧ (∀ y0 y1 y2 y3 y4 y5, LeO (plait_diagram_arches.l0 k y0 y1 y2 y3 y4 y5) (plait_diagram_arches.l0 (k + 1) y0 y1 y2 y3 y4 y5)) ∧ (∀ y0 y1 y2 y3 y4 y5 y6 y7 y8, LeO (plait_diagram_arches.j2 k y0 y1 y2 y3 y4 y5 y6 y7 y8) (plait_diagram_arches.j2 (k + 1) y0 y1 y2 y3 y4 y5 y6 y7 y8))
 | 0 => ⟨fun _ _ r h => by simp [plait_diagram_arches.j0] at h, fun _ _ _ _ _ _ r h => by simp [plait_diagram_arches.l0] at h, fun _ _ _ _ _ _ _ _ _ r h => by simp [plait_diagram_arches.j2] at h⟩
 | k + 1 => by
  obtain ⟨ih0, ih1, ih2⟩ := plait_diagram_arches.mono_l k
  refine ⟨?_, ?_, ?_⟩
  ·intro y0 y1
   unfold plait_diagram_arches.j0
   repeat' first
   | (with_reducible exact ih0 _ _)
   | (with_reducible exact ih1 _ _ _ _ _ _)
   | (with_reducible exact ih2 _ _ _ _ _ _ _ _ _)
   | (with_reducible exact plait_border.mono _ _)
   | (with_reducible exact LeO.refl _)
   | (with_reducible exact LeO.none _)
   | (with_reducible refine LeO.ite ?_ ?_)
   | (with_reducible refine LeO.bind ?_ (fun _ => ?_))
   | exact ih0 _ _
   | exact ih1 _ _ _ _ _ _
   | exact ih2 _ _ _ _ _ _ _ _ _
   | exact plait_border.mono _ _
   | exact LeO.none _
   | refine LeO.ite ?_ ?_
   | refine LeO.bind ?_ (fun _ => ?_)
  ·intro y0 y1 y2 y3 y4 y5
   unfold plait_diagram_arches.l0
   repeat' first
   | (with_reducible exact ih0 _ _)
   | (with_reducible exact ih1 _ _ _ _ _ _)
   | (with_reducible exact ih2 _ _ _ _ _ _ _ _ _)
   | (with_reducible exact plait_border.mono _ _)
   | (with_reducible exact LeO.refl _)
   | (with_reducible exact LeO.none _)
   | (with_reducible refine LeO.ite ?_ ?_)
   | (with_reducible refine LeO.bind ?_ (fun _ => ?_))
   | exact ih0 _ _
   | exact ih1 _ _ _ _ _ _
   | exact ih2 _ _ _ _ _ _ _ _ _
   | exact plait_border.mono _ _
   | exact LeO.none _
   | refine LeO.ite ?_ ?_
   | refine LeO.bind ?_ (fun _ => ?_)
  ·intro y0 y1 y2 y3 y4 y5 y6 y7 y8
   unfold plait_diagram_arches.j2
   repeat' first
   | (with_reducible exact ih0 _ _)
   | (with_reducible exact ih1 _ _ _ _ _ _)
   | (with_reducible exact ih2 _ _ _ _ _ _ _ _ _)
   | (with_reducible exact plait_border.mono _ _)
   | (with_reducible exact LeO.refl _)
   | (with_reducible exact LeO.none _)
   | (with_reducible refine LeO.ite ?_ ?_)
   | (with_reducible refine LeO.bind ?_ (fun _ => ?_))
   | exact ih0 _ _
   | exact ih1 _ _ _ _ _ _
   | exact ih2 _ _ _ _ _ _ _ _ _
   | exact plait_border.mono _ _
   | exact LeO.none _
   | refine LeO.ite ?_ ?_
   | refine LeO.bind ?_ (fun _ => ?_)
theorem plait_diagram_arches.mono : ∀ a0 k, LeO (plait_diagram_arches.f k a0) (plait_diagram_arches.f (k + 1) a0) := by
 intro a0 k
 obtain ⟨ih0, ih1, ih2⟩ := plait_diagram_arches.mono_l k
 unfold plait_diagram_arches.f
 repeat' first
   | (with_reducible exact ih0 _ _)
   | (with_reducible exact ih1 _ _ _ _ _ _)
   | (with_reducible exact ih2 _ _ _ _ _ _ _ _ _)
   | (with_reducible exact plait_border.mono _ _)
   | (with_reducible exact LeO.refl _)
   | (with_reducible exact LeO.none _)
   | (with_reducible refine LeO.ite ?_ ?_)
   | (with_reducible refine LeO.bind ?_ (fun _ => ?_))
   | exact ih0 _ _
   | exact ih1 _ _ _ _ _ _
   | exact ih2 _ _ _ _ _ _ _ _ _
   | exact plait_border.mono _ _
   | exact LeO.none _
   | refine LeO.ite ?_ ?_
   | refine LeO.bind ?_ (fun _ => ?_)
set_option maxHeartbeats 8000000 in
set_option maxRecDepth 100000 in
theorem plait_diagram_arches.calls (k : Nat) (A0 : Option Addr) (c0 : Nat) (l0 : List Int) (r1 : ByteArray) (r2 : Bool) (w : World) (hr0 : Kd.C (Kd.int .i64) w A0 l0.length l0) (hc0 : l0.length ≤ c0) (h : plait_diagram_arches.f k l0 = some (r1, r2)) :
  Calls Try.prog 71 #[.slice A0 l0.length c0] w fun e w' => e = .returned (.tuple #[.string r1, .bool r2]) ∧ Below w.heap.size w w' := by
 have HR0 := Aside0.mk hr0
 have HC0 := Aside0.mk hc0
 clear hr0 hc0
 have HB := Aside0.mk (Below.refl w.heap.size w)
 have H : (if (l0.length : Int) = 0 then (plait_diagram_arches.j0 k l0 true) else (plait_diagram_arches.j0 k l0 (((l0.length : Int) % 2) != 0))) = some (r1, r2) := h
 clear h
 have HC2 := Aside0.mk H
 clear H
 go_enter Try.func71, Try.ntmps71
 go_upto_region 1 with (fail)
 go_cut [17] (fun v17 wc => ∃ (kq : Nat) (x17_1 : Bool), v17 = .bool x17_1 ∧ Aside0 (plait_diagram_arches.j0 kq l0 x17_1 = some (r1, r2)) ∧ Aside0 (kq ≤ k) ∧ Aside0 (Below w.heap.size w wc))
 case first =>
  have H := HC2.out
  clear HC2
  by_cases c3 : (l0.length : Int) = 0
  ·rw [if_pos c3] at H
   have c3b0 : ((l0.length : Int) == 0) = true := beq_iff_eq.mpr c3
   have c3b1 : ((l0.length : Int) != 0) = false := bne_eq_false_iff_eq.mpr c3
   clear c3
   (first | rw [c3b0] | (simp only [i64_w, i32_w]; rw [c3b0]) | skip)
   have H' := Aside0.mk H
   clear H
   go_wp2
   go_meet
   case rel => exact ⟨_, (true), (by first | rfl | (simp; done) | (simp [*]; done)), H', ⟨by first | omega | exact Nat.le_refl _⟩, ⟨by repeat (first | (with_reducible first | exact HB.out | apply below_alloc | apply pw_below_drewN | apply below_drew1) | exact HB.out)⟩⟩
  ·rw [if_neg c3] at H
   have c3b0 : ((l0.length : Int) == 0) = false := beq_eq_false_iff_ne.mpr c3
   have c3b1 : ((l0.length : Int) != 0) = true := bne_iff_ne.mpr c3
   have c3b2 : ¬ (l0 = []) := fun h_ => c3 (by rw [h_]; rfl)
   (first | rw [c3b0] | (simp only [i64_w, i32_w]; rw [c3b0]) | skip)
   have H' := Aside0.mk H
   clear H
   go_wp2
   go_meet
   case rel => exact ⟨_, ((((l0.length : Int) % 2) != 0)), (by first | rfl | (simp; done) | (simp [*]; done)), H', ⟨by first | omega | exact Nat.le_refl _⟩, ⟨by repeat (first | (with_reducible first | exact HB.out | apply below_alloc | apply pw_below_drewN | apply below_drew1) | exact HB.out)⟩⟩
 case rest =>
  clear HC2
  try clear p2
  try clear c3
  try clear c3b0
  try clear c3b1
  try clear c3b2
  obtain ⟨kq, x17_1, rfl, HA, HJ1, HB⟩ := hcut
  cases kq with
  | zero => exact absurd HA.out (by simp [plait_diagram_arches.j0])
  | succ kj1 =>
   have H := HA.out
   clear HA
   simp only [plait_diagram_arches.j0] at H
   by_cases c4 : x17_1 = true
   ·subst c4
    have H1 : (some ((⟨#[]⟩ : ByteArray), false)) = some (r1, r2) := by rw [if_pos rfl] at H; exact H
    clear H
    have H := H1
    clear H1
    simp only [Option.some.injEq, Prod.mk.injEq] at H
    obtain ⟨rfl, rfl⟩ := H
    go_wp2
    go_ret2
    exact ⟨by first | rfl | (simp [errW_none, errW_some] <;> rfl) | (simp [*, errW_none, errW_some] <;> rfl), by repeat (first | (with_reducible first | exact HB.out | apply below_alloc | apply pw_below_drewN | apply below_drew1) | exact HB.out)⟩
   ·replace c4 := Bool.eq_false_iff.mpr c4
    subst c4
    have H1 : ((plait_diagram_size.f l0).bind fun t107 => ((plait_border.f kj1 t107).bind fun t108 => (plait_diagram_arches.l0 kj1 l0 ([] : List Int) ([] : List Int) t108 (t108.length : Int) 0))) = some (r1, r2) := by rw [if_neg (show ¬ (false = true) by decide)] at H; exact H
    clear H
    have H := H1
    clear H1
    replace H := Option.bind_eq_some_iff.mp H
    obtain ⟨t107, A50, H⟩ := H
    replace H : ((plait_border.f kj1 t107).bind fun t108 => (plait_diagram_arches.l0 kj1 l0 ([] : List Int) ([] : List Int) t108 (t108.length : Int) 0)) = some (r1, r2) := H
    have A5 := Aside0.mk A50
    clear A50
    replace H := Option.bind_eq_some_iff.mp H
    obtain ⟨t108, A60, H⟩ := H
    replace H : (plait_diagram_arches.l0 kj1 l0 ([] : List Int) ([] : List Int) t108 (t108.length : Int) 0) = some (r1, r2) := H
    have A6 := Aside0.mk A60
    clear A60
    have H' := Aside0.mk H
    clear H
    go_wp2_with (first | ((with_reducible refine gate_callee (f := 72) rfl ?_); refine goesL_ (some 19) rfl rfl Try.func72 (by kernel_rfl) rfl #[.slice A0 l0.length c0] rfl (by (try simp only [List.map_toArray, List.map_cons, List.map_nil]); first | done | rfl | (simp only [List.length_drop, List.length_take]; rfl)) ?_; (with_reducible refine (plait_diagram_size.calls _ _ l0 t107 _ ?side1 ?side2 A5.out).mono ?_); (case side1 => repeat (first | exact (Kd.C_below HR0.out HB.out) | (with_reducible refine Kd.C_alloc ?_ _) | (with_reducible refine Kd.C_drewN ?_ _) | (with_reducible refine Kd.C_drew ?_))); (case side2 => exact HC0.out); rintro e w' ⟨rfl, ⟨nd, rfl⟩⟩; refine ⟨_, rfl, ?_⟩) | ((with_reducible refine gate_callee (f := 70) rfl ?_); refine goesL_ (some 20) rfl rfl Try.func70 (by kernel_rfl) rfl #[.int .i64 t107] rfl (by (try simp only [List.map_toArray, List.map_cons, List.map_nil]); first | done | rfl | (simp only [List.length_drop, List.length_take]; rfl)) ?_; (with_reducible refine (plait_border.calls kj1 t107 t108 _ A6.out).mono ?_); rintro e w7 ⟨v109, rfl, ho0, hb⟩; refine ⟨_, rfl, ?_⟩; have n0_ := Aside0.mk (Kd.R_lower ho0 (below_size (by repeat (first | (with_reducible first | exact HB.out | apply below_alloc | apply pw_below_drewN | apply below_drew1) | exact HB.out)))); have n1_ := Aside0.mk (below_step (by repeat (first | (with_reducible first | exact HB.out | apply below_alloc | apply pw_below_drewN | apply below_drew1) | exact HB.out)) hb); clear HB; have HO110 := n0_; have HB := n1_; clear n0_ n1_; (try clear hb); (try clear hb2); (try clear hk); (try clear hi); (try clear ho0); obtain ⟨Ao8, co8, eo8⟩ := Kd.R_slice HO110.out; subst eo8))
    go_loopg [4, 5, 22] kj1 (fun kq v4 v5 v22 w' => ∃ (x4_2 : List Int) (x5_2 : List Int) (x22_2 : Int), v22 = .int .i64 x22_2 ∧ Aside0 (plait_diagram_arches.l0 kq l0 x4_2 x5_2 t108 (t108.length : Int) x22_2 = some (r1, r2)) ∧ Aside0 (kq ≤ kj1) ∧ Aside0 (Kd.R (Kd.int .i64) 3 w' w.heap.size (fun k_ => some k_ ≠ ((.slice Ao8 t108.length co8) : Value).ownBlock) v4 x4_2) ∧ Aside0 (Kd.R (Kd.int .u8) 5 w' w.heap.size (fun _ => True) v5 x5_2) ∧ Aside0 (Kd.R (Kd.int .i64) 3 w' w.heap.size (fun k_ => some k_ ≠ (v4 : Value).ownBlock) (.slice Ao8 t108.length co8) t108) ∧ Aside0 (Below w.heap.size w w'))
    case atStart => exact ⟨(([] : List Int)), (([] : List Int)), (0), (by first | rfl | (simp; done) | (simp [*]; done)), H', ⟨Nat.le_refl _⟩, ⟨by first | exact Kd.R_nil _ _ _ _ _ | exact Kd.N_nil _ _ _ _ _ | exact Kd.V_nil _ _ _ _ _ | exact Kd.Q_nil _ _ _ _ _ | exact Kd.S_nil _ _ _ _ _⟩, ⟨by first | exact Kd.R_nil _ _ _ _ _ | exact Kd.N_nil _ _ _ _ _ | exact Kd.V_nil _ _ _ _ _ | exact Kd.Q_nil _ _ _ _ _ | exact Kd.S_nil _ _ _ _ _⟩, ⟨by (with_reducible repeat (first | apply Kd.R_alloc | apply Kd.R_drewN | apply Kd.R_drew)); exact Kd.R_mono HO110.out (fun _ hk => (by simp [Value.ownBlock]))⟩, ⟨by repeat (first | (with_reducible first | exact HB.out | apply below_alloc | apply pw_below_drewN | apply below_drew1) | exact HB.out)⟩⟩
    case round =>
     clear H'
     try clear p2
     try clear c3
     try clear c3b0
     try clear c3b1
     try clear c3b2
     try clear c4
     try clear c7
     try clear p2
     obtain ⟨x4_2, x5_2, x22_2, rfl, HA, HK2, HO_4, HO_5, HO_20, HB⟩ := hrel
     cases gk with
     | zero => exact absurd HA.out (by simp [plait_diagram_arches.l0])
     | succ k2 =>
      have H := HA.out
      clear HA
      simp only [plait_diagram_arches.l0] at H
      by_cases c9 : x22_2 < (t108.length : Int)
      ·rw [if_pos c9] at H
       have c9b0 : decide (x22_2 < (t108.length : Int)) = true := decide_eq_true c9
       clear c9
       by_cases c10 : 0 ≤ x22_2
       ·rw [if_pos c10] at H
        have c10b0 : decide (0 ≤ x22_2) = true := decide_eq_true c10
        clear c10
        by_cases c11 : x22_2 < (t108.length : Int)
        ·rw [if_pos c11] at H
         have c11b0 : decide (x22_2 < (t108.length : Int)) = true := decide_eq_true c11
         clear c11
         by_cases c12 : 0 ≤ (rd t108 x22_2)
         ·rw [if_pos c12] at H
          have c12b0 : decide (0 ≤ (rd t108 x22_2)) = true := decide_eq_true c12
          clear c12
          by_cases c13 : (rd t108 x22_2) < (l0.length : Int)
          ·rw [if_pos c13] at H
           have c13b0 : decide ((rd t108 x22_2) < (l0.length : Int)) = true := decide_eq_true c13
           clear c13
           have HC14 := Aside0.mk H
           clear H
           have p111 : 0 ≤ (x22_2 : Int) := of_decide_eq_true (by first | (with_reducible assumption) | assumption)
           have q111 : x22_2 < (t108.length : Int) := of_decide_eq_true (by first | (with_reducible assumption) | assumption)
           obtain ⟨ad111, e111, hx111_0⟩ := Kd.at_int (Kd.R_reads' HO_20.out).2.2 x22_2 p111 q111
           cases e111
           replace p111 := eq_true p111
           replace q111 := eq_true q111
           have p112 : 0 ≤ ((rd t108 x22_2) : Int) := of_decide_eq_true (by first | (with_reducible assumption) | assumption)
           have q112 : (rd t108 x22_2) < (l0.length : Int) := of_decide_eq_true (by first | (with_reducible assumption) | assumption)
           obtain ⟨ad112, e112, hx112_0⟩ := Kd.at_int HR0.out (rd t108 x22_2) p112 q112
           cases e112
           replace hx112_0 := (HB.out.cell (World.block_lt_of_cell? w _ hx112_0)).trans hx112_0
           replace p112 := eq_true p112
           replace q112 := eq_true q112
           go_upto_region 11 with (fail)
           go_cut [37] (fun v37 wc => ∃ (kq : Nat) (x37_13 : Bool), v37 = .bool x37_13 ∧ Aside0 (plait_diagram_arches.j2 kq l0 x4_2 x5_2 (rd t108 x22_2) (rd l0 (rd t108 x22_2)) t108 (t108.length : Int) x22_2 x37_13 = some (r1, r2)) ∧ Aside0 (kq ≤ k2) ∧ Aside0 (Kd.R (Kd.int .i64) 3 wc w.heap.size (fun k_ => some k_ ≠ ((.slice (some ad111) t108.length co8) : Value).ownBlock) u4 x4_2) ∧ Aside0 (Kd.R (Kd.int .u8) 5 wc w.heap.size (fun _ => True) u5 x5_2) ∧ Aside0 (Kd.R (Kd.int .i64) 3 wc w.heap.size (fun k_ => some k_ ≠ (u4 : Value).ownBlock) (.slice (some ad111) t108.length co8) t108) ∧ Aside0 (Below w.heap.size w wc))
           case first =>
            have H := HC14.out
            clear HC14
            by_cases c15 : (rd l0 (rd t108 x22_2)) < 0
            ·rw [if_pos c15] at H
             have c15b0 : decide ((rd l0 (rd t108 x22_2)) < 0) = true := decide_eq_true c15
             clear c15
             (first | rw [c15b0] | (simp only [i64_w, i32_w]; rw [c15b0]) | skip)
             have H' := Aside0.mk H
             clear H
             go_wp2
             go_meet
             case rel => exact ⟨_, (true), (by first | rfl | (simp; done) | (simp [*]; done)), H', ⟨by have := HJ1.out; have := HK2.out; first | omega | exact Nat.le_refl _⟩, ⟨by (with_reducible repeat (first | apply Kd.R_alloc | apply Kd.R_drewN | apply Kd.R_drew)); exact HO_4.out⟩, ⟨by (with_reducible repeat (first | apply Kd.R_alloc | apply Kd.R_drewN | apply Kd.R_drew)); exact HO_5.out⟩, ⟨by (with_reducible repeat (first | apply Kd.R_alloc | apply Kd.R_drewN | apply Kd.R_drew)); exact HO_20.out⟩, ⟨by repeat (first | (with_reducible first | exact HB.out | apply below_alloc | apply pw_below_drewN | apply below_drew1) | exact HB.out)⟩⟩
            ·rw [if_neg c15] at H
             have c15b0 : decide ((rd l0 (rd t108 x22_2)) < 0) = false := decide_eq_false c15
             clear c15
             (first | rw [c15b0] | (simp only [i64_w, i32_w]; rw [c15b0]) | skip)
             by_cases c16 : (rd l0 (rd t108 x22_2)) ≥ (l0.length : Int)
             ·rw [if_pos c16] at H
              have c16b0 : decide ((l0.length : Int) ≤ (rd l0 (rd t108 x22_2))) = true := decide_eq_true c16
              clear c16
              have H' := Aside0.mk H
              clear H
              go_wp2
              go_meet
              case rel => exact ⟨_, (true), (by first | rfl | (simp; done) | (simp [*]; done)), H', ⟨by have := HJ1.out; have := HK2.out; first | omega | exact Nat.le_refl _⟩, ⟨by (with_reducible repeat (first | apply Kd.R_alloc | apply Kd.R_drewN | apply Kd.R_drew)); exact HO_4.out⟩, ⟨by (with_reducible repeat (first | apply Kd.R_alloc | apply Kd.R_drewN | apply Kd.R_drew)); exact HO_5.out⟩, ⟨by (with_reducible repeat (first | apply Kd.R_alloc | apply Kd.R_drewN | apply Kd.R_drew)); exact HO_20.out⟩, ⟨by repeat (first | (with_reducible first | exact HB.out | apply below_alloc | apply pw_below_drewN | apply below_drew1) | exact HB.out)⟩⟩
             ·rw [if_neg c16] at H
              have c16b0 : decide ((l0.length : Int) ≤ (rd l0 (rd t108 x22_2))) = false := decide_eq_false c16
              clear c16
              by_cases c17 : (rd l0 (rd t108 x22_2)) = (rd t108 x22_2)
              ·rw [if_pos c17] at H
               have c17b0 : ((rd l0 (rd t108 x22_2)) == (rd t108 x22_2)) = true := beq_iff_eq.mpr c17
               have c17b1 : ((rd l0 (rd t108 x22_2)) != (rd t108 x22_2)) = false := bne_eq_false_iff_eq.mpr c17
               clear c17
               have H' := Aside0.mk H
               clear H
               go_wp2
               go_meet
               case rel => exact ⟨_, (true), (by first | rfl | (simp; done) | (simp [*]; done)), H', ⟨by have := HJ1.out; have := HK2.out; first | omega | exact Nat.le_refl _⟩, ⟨by (with_reducible repeat (first | apply Kd.R_alloc | apply Kd.R_drewN | apply Kd.R_drew)); exact HO_4.out⟩, ⟨by (with_reducible repeat (first | apply Kd.R_alloc | apply Kd.R_drewN | apply Kd.R_drew)); exact HO_5.out⟩, ⟨by (with_reducible repeat (first | apply Kd.R_alloc | apply Kd.R_drewN | apply Kd.R_drew)); exact HO_20.out⟩, ⟨by repeat (first | (with_reducible first | exact HB.out | apply below_alloc | apply pw_below_drewN | apply below_drew1) | exact HB.out)⟩⟩
              ·rw [if_neg c17] at H
               have c17b0 : ((rd l0 (rd t108 x22_2)) == (rd t108 x22_2)) = false := beq_eq_false_iff_ne.mpr c17
               have c17b1 : ((rd l0 (rd t108 x22_2)) != (rd t108 x22_2)) = true := bne_iff_ne.mpr c17
               by_cases c18 : 0 ≤ (rd l0 (rd t108 x22_2))
               ·rw [if_pos c18] at H
                have c18b0 : decide (0 ≤ (rd l0 (rd t108 x22_2))) = true := decide_eq_true c18
                clear c18
                by_cases c19 : (rd l0 (rd t108 x22_2)) < (l0.length : Int)
                ·rw [if_pos c19] at H
                 have c19b0 : decide ((rd l0 (rd t108 x22_2)) < (l0.length : Int)) = true := decide_eq_true c19
                 clear c19
                 have H' := Aside0.mk H
                 clear H
                 have p113 : 0 ≤ ((rd l0 (rd t108 x22_2)) : Int) := of_decide_eq_true (by first | (with_reducible assumption) | assumption)
                 have q113 : (rd l0 (rd t108 x22_2)) < (l0.length : Int) := of_decide_eq_true (by first | (with_reducible assumption) | assumption)
                 obtain ⟨ad113, e113, hx113_0⟩ := Kd.at_int HR0.out (rd l0 (rd t108 x22_2)) p113 q113
                 obtain rfl : ad112 = ad113 := (by injection e113)
                 replace hx113_0 := (HB.out.cell (World.block_lt_of_cell? w _ hx113_0)).trans hx113_0
                 replace p113 := eq_true p113
                 replace q113 := eq_true q113
                 go_wp2
                 go_meet
                 case rel => exact ⟨_, (((rd l0 (rd l0 (rd t108 x22_2))) != (rd t108 x22_2))), (by first | rfl | (simp; done) | (simp [*]; done)), H', ⟨by have := HJ1.out; have := HK2.out; first | omega | exact Nat.le_refl _⟩, ⟨by (with_reducible repeat (first | apply Kd.R_alloc | apply Kd.R_drewN | apply Kd.R_drew)); exact HO_4.out⟩, ⟨by (with_reducible repeat (first | apply Kd.R_alloc | apply Kd.R_drewN | apply Kd.R_drew)); exact HO_5.out⟩, ⟨by (with_reducible repeat (first | apply Kd.R_alloc | apply Kd.R_drewN | apply Kd.R_drew)); exact HO_20.out⟩, ⟨by repeat (first | (with_reducible first | exact HB.out | apply below_alloc | apply pw_below_drewN | apply below_drew1) | exact HB.out)⟩⟩
                ·rw [if_neg c19] at H
                 exact absurd H (by simp)
               ·rw [if_neg c18] at H
                exact absurd H (by simp)
           case rest =>
            clear HC14
            try clear c1
            try clear p1
            try clear q1
            try clear hx1
            try clear p2
            try clear c3
            try clear c3b0
            try clear c3b1
            try clear c3b2
            try clear c4
            try clear c7
            try clear c9
            try clear c9b0
            try clear c10
            try clear c10b0
            try clear c11
            try clear c11b0
            try clear p11
            try clear q11
            try clear hx11
            try clear c12
            try clear c12b0
            try clear c13
            try clear c13b0
            try clear c15
            try clear c15b0
            try clear c16
            try clear c16b0
            try clear c17
            try clear c17b0
            try clear c17b1
            try clear c18
            try clear c18b0
            try clear c19
            try clear c19b0
            try clear hx111_0
            try clear hx112_0
            try clear hx113_0
            try clear p111
            try clear p112
            try clear p113
            try clear p2
            try clear q111
            try clear q112
            try clear q113
            obtain ⟨kq, x37_13, rfl, HA, HJ13, HO_4, HO_5, HO_20, HB⟩ := hcut
            cases kq with
            | zero => exact absurd HA.out (by simp [plait_diagram_arches.j2])
            | succ kj13 =>
             have H := HA.out
             clear HA
             simp only [plait_diagram_arches.j2] at H
             by_cases c20 : x37_13 = true
             ·subst c20
              have H1 : (some ((⟨#[]⟩ : ByteArray), false)) = some (r1, r2) := by rw [if_pos rfl] at H; exact H
              clear H
              have H := H1
              clear H1
              simp only [Option.some.injEq, Prod.mk.injEq] at H
              obtain ⟨rfl, rfl⟩ := H
              go_wp2
              go_ret2
              exact ⟨by first | rfl | (simp [errW_none, errW_some] <;> rfl) | (simp [*, errW_none, errW_some] <;> rfl), by repeat (first | (with_reducible first | exact HB.out | apply below_alloc | apply pw_below_drewN | apply below_drew1) | exact HB.out)⟩
             ·replace c20 := Bool.eq_false_iff.mpr c20
              subst c20
              have H1 : (if (x4_2.length : Int) > 0 then (if 0 ≤ (wrap64 ((x4_2.length : Int) - 1)) then (if (wrap64 ((x4_2.length : Int) - 1)) < (x4_2.length : Int) then (if (rd x4_2 (wrap64 ((x4_2.length : Int) - 1))) = (rd l0 (rd t108 x22_2)) then (if (wrap64 ((x4_2.length : Int) - 1)) ≤ (x4_2.length : Int) then (if x5_2.length < 140737488355328 then (plait_diagram_arches.l0 kj13 l0 (x4_2.take ((wrap64 ((x4_2.length : Int) - 1)) : Int).toNat) (x5_2 ++ [41]) t108 (t108.length : Int) (wrap64 (x22_2 + 1))) else (none)) else (none)) else (if x4_2.length < 17592186044416 then (if x5_2.length < 140737488355328 then (plait_diagram_arches.l0 kj13 l0 (x4_2 ++ [(rd t108 x22_2)]) (x5_2 ++ [40]) t108 (t108.length : Int) (wrap64 (x22_2 + 1))) else (none)) else (none))) else (none)) else (none)) else (if x4_2.length < 17592186044416 then (if x5_2.length < 140737488355328 then (plait_diagram_arches.l0 kj13 l0 (x4_2 ++ [(rd t108 x22_2)]) (x5_2 ++ [40]) t108 (t108.length : Int) (wrap64 (x22_2 + 1))) else (none)) else (none))) = some (r1, r2) := by rw [if_neg (show ¬ (false = true) by decide)] at H; exact H
              clear H
              have H := H1
              clear H1
              by_cases c21 : (x4_2.length : Int) > 0
              ·rw [if_pos c21] at H
               have c21b0 : decide (0 < (x4_2.length : Int)) = true := decide_eq_true c21
               have c21b1 : decide (0 < x4_2.length) = true := decide_eq_true (by omega)
               clear c21
               obtain ⟨ji22, hji22⟩ : ∃ j_ : Int, (wrap64 ((x4_2.length : Int) - 1)) = j_ := ⟨_, rfl⟩
               replace H : (if 0 ≤ (ji22) then (if (ji22) < (x4_2.length : Int) then (if (rd x4_2 (ji22)) = (rd l0 (rd t108 x22_2)) then (if (ji22) ≤ (x4_2.length : Int) then (if x5_2.length < 140737488355328 then (plait_diagram_arches.l0 kj13 l0 (x4_2.take ((ji22) : Int).toNat) (x5_2 ++ [41]) t108 (t108.length : Int) (wrap64 (x22_2 + 1))) else (none)) else (none)) else (if x4_2.length < 17592186044416 then (if x5_2.length < 140737488355328 then (plait_diagram_arches.l0 kj13 l0 (x4_2 ++ [(rd t108 x22_2)]) (x5_2 ++ [40]) t108 (t108.length : Int) (wrap64 (x22_2 + 1))) else (none)) else (none))) else (none)) else (none)) = some (r1, r2) := by first | (rw [hji22] at H; exact H) | (simp only [hji22] at H ⊢; exact H)
               have hji22w : (IntKind.i64.wrap ((x4_2.length : Int) - 1)) = ji22 := (i64_w _).trans hji22
               by_cases c23 : 0 ≤ (ji22)
               ·rw [if_pos c23] at H
                have c23b0 : decide (0 ≤ (ji22)) = true := decide_eq_true c23
                clear c23
                by_cases c24 : (ji22) < (x4_2.length : Int)
                ·rw [if_pos c24] at H
                 have c24b0 : decide ((ji22) < (x4_2.length : Int)) = true := decide_eq_true c24
                 clear c24
                 by_cases c25 : (rd x4_2 (ji22)) = (rd l0 (rd t108 x22_2))
                 ·rw [if_pos c25] at H
                  have c25b0 : ((rd x4_2 (ji22)) == (rd l0 (rd t108 x22_2))) = true := beq_iff_eq.mpr c25
                  have c25b1 : ((rd x4_2 (ji22)) != (rd l0 (rd t108 x22_2))) = false := bne_eq_false_iff_eq.mpr c25
                  clear c25
                  by_cases c26 : (ji22) ≤ (x4_2.length : Int)
                  ·rw [if_pos c26] at H
                   have c26b0 := eq_true c26
                   have c26b1 : decide ((ji22) ≤ (x4_2.length : Int)) = true := decide_eq_true c26
                   clear c26
                   obtain ⟨y115, hy115⟩ : ∃ y_ : List Int, y_ = (x4_2.take ((ji22) : Int).toNat) := ⟨_, rfl⟩
                   replace H : (if x5_2.length < 140737488355328 then (plait_diagram_arches.l0 kj13 l0 y115 (x5_2 ++ [41]) t108 (t108.length : Int) (wrap64 (x22_2 + 1))) else (none)) = some (r1, r2) := by first | (rw [hy115]; with_reducible exact H) | (have H2_ := (Option.bind_some _ _).symm.trans H; rw [hy115]; with_reducible exact H2_) | (have H2_ := (Option.bind_some _ _).symm.trans H; with_reducible exact H2_) | with_reducible exact H | (rw [hy115]; exact H) | exact H
                   have Ny115 := Aside0.mk hy115
                   clear hy115
                   by_cases c27 : x5_2.length < 140737488355328
                   ·rw [if_pos c27] at H
                    have LMc27 := Aside0.mk c27
                    clear c27
                    obtain ⟨y118, hy118⟩ : ∃ y_ : List Int, y_ = (x5_2 ++ [41]) := ⟨_, rfl⟩
                    replace H : (plait_diagram_arches.l0 kj13 l0 y115 y118 t108 (t108.length : Int) (wrap64 (x22_2 + 1))) = some (r1, r2) := by first | (rw [hy118]; with_reducible exact H) | (have H2_ := (Option.bind_some _ _).symm.trans H; rw [hy118]; with_reducible exact H2_) | (have H2_ := (Option.bind_some _ _).symm.trans H; with_reducible exact H2_) | with_reducible exact H | (rw [hy118]; exact H) | exact H
                    have Ny118 := Aside0.mk hy118
                    clear hy118
                    have H' := Aside0.mk H
                    clear H
                    obtain ⟨Ao28, co28, eo28⟩ := Kd.R_slice HO_4.out
                    subst eo28
                    have p114 : 0 ≤ ((ji22) : Int) := of_decide_eq_true (by first | (with_reducible assumption) | assumption)
                    have q114 : (ji22) < (x4_2.length : Int) := of_decide_eq_true (by first | (with_reducible assumption) | assumption)
                    obtain ⟨ad114, e114, hx114_0⟩ := Kd.at_int (Kd.R_reads' HO_4.out).2.2 (ji22) p114 q114
                    cases e114
                    replace p114 := eq_true p114
                    replace q114 := eq_true q114
                    have q29 : ((ji22) : Int) ≤ ((x4_2.length : Int) : Int) := of_decide_eq_true (by first | (with_reducible assumption) | assumption)
                    obtain ⟨i029, hi029, _, hsz29, _⟩ := info_parts info3
                    have hcut29 := cut_to (P := Try.prog) 22 3 .i64 Try.underlying22 hi029 (some ad114) x4_2.length co28 (ji22) (of_decide_eq_true (by first | (with_reducible assumption) | assumption)) q29 (Kd.R_reads' HO_4.out).2.1
                    have hr29 := Kd.R_take (m := ((ji22) : Int).toNat) HO_4.out (by omega)
                    have hy29 : y115.length = ((ji22) : Int).toNat := (by rw [Ny115.out, List.length_take]; omega)
                    rw [← Ny115.out] at hr29
                    rw [← hy29] at hr29 hcut29
                    clear hy29 hi029 hsz29 HO_4
                    have HO117 := Aside0.mk hr29
                    clear hr29
                    replace q29 := eq_true q29
                    go_wp2_with (first | ((with_reducible refine gate_builtin (b := .append) (xs := #[.tmp 78, .tmp 79]) rfl ?_); (try (refine gate_guard (by rfl) ?_; dsimp only)); at_builtin; refine Kd.R_append (Kd.int .u8) (w0 := w) w.heap.size rfl (.tmp 78) (.tmp 79) 60 5 (.int .u8 0) 1 rfl Try.underlying60 info5 rfl (by decide) (by omega) u5 x5_2 41 [.int .u8 41] (fun _ => True) (fun _ => False) rfl rfl ?aP (fun _ hk => hk.elim) ?aF ?aO ?aB ?aS ?aL ?_; (case aP => exact rfl); (case aB => exact (by repeat (first | (with_reducible first | exact HB.out | apply below_alloc | apply pw_below_drewN | apply below_drew1) | exact HB.out))); (case aF => exact (fun _ _ => trivial)); (case aO => exact (by (with_reducible repeat (first | apply Kd.R_alloc | apply Kd.R_drewN | apply Kd.R_drew)); exact HO_5.out)); (case aS => exact (below_size (by repeat (first | (with_reducible first | exact HB.out | apply below_alloc | apply pw_below_drewN | apply below_drew1) | exact HB.out)))); (case aL => have := LMc27.out; omega); intro v119 w30 ho hb hg hat; rw [← Ny118.out] at ho; have n0_ := Aside0.mk (Kd.R_over' (by (with_reducible repeat (first | apply Kd.R_alloc | apply Kd.R_drewN | apply Kd.R_drew)); exact HO117.out) (Kd.R_typed (by (with_reducible repeat (first | apply Kd.R_alloc | apply Kd.R_drewN | apply Kd.R_drew)); exact HO_5.out)) (by decide) hg); have n1_ := Aside0.mk (Kd.R_over' (by (with_reducible repeat (first | apply Kd.R_alloc | apply Kd.R_drewN | apply Kd.R_drew)); exact HO_20.out) (Kd.R_typed (by (with_reducible repeat (first | apply Kd.R_alloc | apply Kd.R_drewN | apply Kd.R_drew)); exact HO_5.out)) (by decide) hg); have n2_ := Aside0.mk (hb); have n3_ := Aside0.mk (ho); clear HO117; clear HO_20; clear HB; clear HO_5; have HO117 := n0_; have HO_20 := n1_; have HB := n2_; have HO120 := n3_; clear n0_ n1_ n2_ n3_; clear ho hb hg hat))
                    go_roundg kj13
                    case measure => have := HJ1.out; have := HK2.out; have := HJ13.out; omega
                    case rel => exact ⟨(y115), (y118), (wrap64 (x22_2 + 1)), (by first | rfl | (simp; done) | (simp [*]; done)), H', ⟨by have := HJ1.out; have := HK2.out; have := HJ13.out; omega⟩, ⟨by (with_reducible repeat (first | apply Kd.R_alloc | apply Kd.R_drewN | apply Kd.R_drew)); exact HO117.out⟩, ⟨by (with_reducible repeat (first | apply Kd.R_alloc | apply Kd.R_drewN | apply Kd.R_drew)); exact HO120.out⟩, ⟨by (with_reducible repeat (first | apply Kd.R_alloc | apply Kd.R_drewN | apply Kd.R_drew)); exact HO_20.out⟩, ⟨by repeat (first | (with_reducible first | exact HB.out | apply below_alloc | apply pw_below_drewN | apply below_drew1) | exact HB.out)⟩⟩
                   ·rw [if_neg c27] at H
                    exact absurd H (by simp)
                  ·rw [if_neg c26] at H
                   exact absurd H (by simp)
                 ·rw [if_neg c25] at H
                  have c25b0 : ((rd x4_2 (ji22)) == (rd l0 (rd t108 x22_2))) = false := beq_eq_false_iff_ne.mpr c25
                  have c25b1 : ((rd x4_2 (ji22)) != (rd l0 (rd t108 x22_2))) = true := bne_iff_ne.mpr c25
                  by_cases c31 : x4_2.length < 17592186044416
                  ·rw [if_pos c31] at H
                   have LMc31 := Aside0.mk c31
                   clear c31
                   obtain ⟨y121, hy121⟩ : ∃ y_ : List Int, y_ = (x4_2 ++ [(rd t108 x22_2)]) := ⟨_, rfl⟩
                   replace H : (if x5_2.length < 140737488355328 then (plait_diagram_arches.l0 kj13 l0 y121 (x5_2 ++ [40]) t108 (t108.length : Int) (wrap64 (x22_2 + 1))) else (none)) = some (r1, r2) := by first | (rw [hy121]; with_reducible exact H) | (have H2_ := (Option.bind_some _ _).symm.trans H; rw [hy121]; with_reducible exact H2_) | (have H2_ := (Option.bind_some _ _).symm.trans H; with_reducible exact H2_) | with_reducible exact H | (rw [hy121]; exact H) | exact H
                   have Ny121 := Aside0.mk hy121
                   clear hy121
                   by_cases c32 : x5_2.length < 140737488355328
                   ·rw [if_pos c32] at H
                    have LMc32 := Aside0.mk c32
                    clear c32
                    obtain ⟨y124, hy124⟩ : ∃ y_ : List Int, y_ = (x5_2 ++ [40]) := ⟨_, rfl⟩
                    replace H : (plait_diagram_arches.l0 kj13 l0 y121 y124 t108 (t108.length : Int) (wrap64 (x22_2 + 1))) = some (r1, r2) := by first | (rw [hy124]; with_reducible exact H) | (have H2_ := (Option.bind_some _ _).symm.trans H; rw [hy124]; with_reducible exact H2_) | (have H2_ := (Option.bind_some _ _).symm.trans H; with_reducible exact H2_) | with_reducible exact H | (rw [hy124]; exact H) | exact H
                    have Ny124 := Aside0.mk hy124
                    clear hy124
                    have H' := Aside0.mk H
                    clear H
                    obtain ⟨Ao33, co33, eo33⟩ := Kd.R_slice HO_4.out
                    subst eo33
                    have p114 : 0 ≤ ((ji22) : Int) := of_decide_eq_true (by first | (with_reducible assumption) | assumption)
                    have q114 : (ji22) < (x4_2.length : Int) := of_decide_eq_true (by first | (with_reducible assumption) | assumption)
                    obtain ⟨ad114, e114, hx114_0⟩ := Kd.at_int (Kd.R_reads' HO_4.out).2.2 (ji22) p114 q114
                    cases e114
                    replace p114 := eq_true p114
                    replace q114 := eq_true q114
                    go_wp2_with (first | ((with_reducible refine gate_builtin (b := .append) (xs := #[.tmp 30, .tmp 32]) rfl ?_); (try (refine gate_guard (by rfl) ?_; dsimp only)); at_builtin; refine Kd.R_append (Kd.int .i64) (w0 := w) w.heap.size rfl (.tmp 30) (.tmp 32) 22 3 (.int .i64 0) 8 rfl Try.underlying22 info3 rfl (by decide) (by omega) (.slice (some ad114) x4_2.length co33) x4_2 (rd t108 x22_2) [.int .i64 (rd t108 x22_2)] (fun k_ => some k_ ≠ (.slice (some ad111) t108.length co8 : Value).ownBlock) (fun _ => False) rfl rfl ?aP (fun _ hk => hk.elim) ?aF ?aO ?aB ?aS ?aL ?_; (case aP => exact rfl); (case aB => exact (by repeat (first | (with_reducible first | exact HB.out | apply below_alloc | apply pw_below_drewN | apply below_drew1) | exact HB.out))); (case aF => exact (fun k_ hk => Kd.fresh' (Kd.R_lt (by (with_reducible repeat (first | apply Kd.R_alloc | apply Kd.R_drewN | apply Kd.R_drew)); exact HO_20.out)) k_ hk)); (case aO => exact (by (with_reducible repeat (first | apply Kd.R_alloc | apply Kd.R_drewN | apply Kd.R_drew)); exact HO_4.out)); (case aS => exact (below_size (by repeat (first | (with_reducible first | exact HB.out | apply below_alloc | apply pw_below_drewN | apply below_drew1) | exact HB.out)))); (case aL => have := LMc31.out; omega); intro v122 w34 ho hb hg hat; rw [← Ny121.out] at ho; have n0_ := Aside0.mk (Kd.R_over' (by (with_reducible repeat (first | apply Kd.R_alloc | apply Kd.R_drewN | apply Kd.R_drew)); exact HO_5.out) (Kd.R_typed (by (with_reducible repeat (first | apply Kd.R_alloc | apply Kd.R_drewN | apply Kd.R_drew)); exact HO_4.out)) (by decide) hg); have n1_ := Aside0.mk (Kd.R_after (ok := (fun _ => True)) (by (with_reducible repeat (first | apply Kd.R_alloc | apply Kd.R_drewN | apply Kd.R_drew)); exact Kd.R_mono HO_20.out (fun _ hk => ⟨trivial, hk⟩)) hg hat); have n2_ := Aside0.mk (hb); have n3_ := Aside0.mk (ho); clear HO_5; clear HO_20; clear HB; clear HO_4; have HO_5 := n0_; have HO_20 := n1_; have HB := n2_; have HO123 := n3_; clear n0_ n1_ n2_ n3_; clear ho hb hg hat) | ((with_reducible refine gate_builtin (b := .append) (xs := #[.tmp 34, .tmp 35]) rfl ?_); (try (refine gate_guard (by rfl) ?_; dsimp only)); at_builtin; refine Kd.R_append (Kd.int .u8) (w0 := w) w.heap.size rfl (.tmp 34) (.tmp 35) 60 5 (.int .u8 0) 1 rfl Try.underlying60 info5 rfl (by decide) (by omega) u5 x5_2 40 [.int .u8 40] (fun _ => True) (fun _ => False) rfl rfl ?aP (fun _ hk => hk.elim) ?aF ?aO ?aB ?aS ?aL ?_; (case aP => exact rfl); (case aB => exact (by repeat (first | (with_reducible first | exact HB.out | apply below_alloc | apply pw_below_drewN | apply below_drew1) | exact HB.out))); (case aF => exact (fun _ _ => trivial)); (case aO => exact (by (with_reducible repeat (first | apply Kd.R_alloc | apply Kd.R_drewN | apply Kd.R_drew)); exact HO_5.out)); (case aS => exact (below_size (by repeat (first | (with_reducible first | exact HB.out | apply below_alloc | apply pw_below_drewN | apply below_drew1) | exact HB.out)))); (case aL => have := LMc32.out; omega); intro v125 w35 ho hb hg hat; rw [← Ny124.out] at ho; have n0_ := Aside0.mk (Kd.R_over' (by (with_reducible repeat (first | apply Kd.R_alloc | apply Kd.R_drewN | apply Kd.R_drew)); exact HO_20.out) (Kd.R_typed (by (with_reducible repeat (first | apply Kd.R_alloc | apply Kd.R_drewN | apply Kd.R_drew)); exact HO_5.out)) (by decide) hg); have n1_ := Aside0.mk (Kd.R_over' (by (with_reducible repeat (first | apply Kd.R_alloc | apply Kd.R_drewN | apply Kd.R_drew)); exact HO123.out) (Kd.R_typed (by (with_reducible repeat (first | apply Kd.R_alloc | apply Kd.R_drewN | apply Kd.R_drew)); exact HO_5.out)) (by decide) hg); have n2_ := Aside0.mk (hb); have n3_ := Aside0.mk (ho); clear HO_20; clear HO123; clear HB; clear HO_5; have HO_20 := n0_; have HO123 := n1_; have HB := n2_; have HO126 := n3_; clear n0_ n1_ n2_ n3_; clear ho hb hg hat))
                    go_roundg kj13
                    case measure => have := HJ1.out; have := HK2.out; have := HJ13.out; omega
                    case rel => exact ⟨(y121), (y124), (wrap64 (x22_2 + 1)), (by first | rfl | (simp; done) | (simp [*]; done)), H', ⟨by have := HJ1.out; have := HK2.out; have := HJ13.out; omega⟩, ⟨by (with_reducible repeat (first | apply Kd.R_alloc | apply Kd.R_drewN | apply Kd.R_drew)); exact HO123.out⟩, ⟨by (with_reducible repeat (first | apply Kd.R_alloc | apply Kd.R_drewN | apply Kd.R_drew)); exact HO126.out⟩, ⟨by (with_reducible repeat (first | apply Kd.R_alloc | apply Kd.R_drewN | apply Kd.R_drew)); exact Kd.R_mono HO_20.out (fun _ hk => hk.2)⟩, ⟨by repeat (first | (with_reducible first | exact HB.out | apply below_alloc | apply pw_below_drewN | apply below_drew1) | exact HB.out)⟩⟩
                   ·rw [if_neg c32] at H
                    exact absurd H (by simp)
                  ·rw [if_neg c31] at H
                   exact absurd H (by simp)
                ·rw [if_neg c24] at H
                 exact absurd H (by simp)
               ·rw [if_neg c23] at H
                exact absurd H (by simp)
              ·rw [if_neg c21] at H
               have c21b0 : decide (0 < (x4_2.length : Int)) = false := decide_eq_false c21
               have c21b1 : decide (0 < x4_2.length) = false := decide_eq_false (by omega)
               clear c21
               by_cases c36 : x4_2.length < 17592186044416
               ·rw [if_pos c36] at H
                have LMc36 := Aside0.mk c36
                clear c36
                obtain ⟨y127, hy127⟩ : ∃ y_ : List Int, y_ = (x4_2 ++ [(rd t108 x22_2)]) := ⟨_, rfl⟩
                replace H : (if x5_2.length < 140737488355328 then (plait_diagram_arches.l0 kj13 l0 y127 (x5_2 ++ [40]) t108 (t108.length : Int) (wrap64 (x22_2 + 1))) else (none)) = some (r1, r2) := by first | (rw [hy127]; with_reducible exact H) | (have H2_ := (Option.bind_some _ _).symm.trans H; rw [hy127]; with_reducible exact H2_) | (have H2_ := (Option.bind_some _ _).symm.trans H; with_reducible exact H2_) | with_reducible exact H | (rw [hy127]; exact H) | exact H
                have Ny127 := Aside0.mk hy127
                clear hy127
                by_cases c37 : x5_2.length < 140737488355328
                ·rw [if_pos c37] at H
                 have LMc37 := Aside0.mk c37
                 clear c37
                 obtain ⟨y130, hy130⟩ : ∃ y_ : List Int, y_ = (x5_2 ++ [40]) := ⟨_, rfl⟩
                 replace H : (plait_diagram_arches.l0 kj13 l0 y127 y130 t108 (t108.length : Int) (wrap64 (x22_2 + 1))) = some (r1, r2) := by first | (rw [hy130]; with_reducible exact H) | (have H2_ := (Option.bind_some _ _).symm.trans H; rw [hy130]; with_reducible exact H2_) | (have H2_ := (Option.bind_some _ _).symm.trans H; with_reducible exact H2_) | with_reducible exact H | (rw [hy130]; exact H) | exact H
                 have Ny130 := Aside0.mk hy130
                 clear hy130
                 have H' := Aside0.mk H
                 clear H
                 obtain ⟨Ao38, co38, eo38⟩ := Kd.R_slice HO_4.out
                 subst eo38
                 go_wp2_with (first | ((with_reducible refine gate_builtin (b := .append) (xs := #[.tmp 30, .tmp 32]) rfl ?_); (try (refine gate_guard (by rfl) ?_; dsimp only)); at_builtin; refine Kd.R_append (Kd.int .i64) (w0 := w) w.heap.size rfl (.tmp 30) (.tmp 32) 22 3 (.int .i64 0) 8 rfl Try.underlying22 info3 rfl (by decide) (by omega) (.slice Ao38 x4_2.length co38) x4_2 (rd t108 x22_2) [.int .i64 (rd t108 x22_2)] (fun k_ => some k_ ≠ (.slice (some ad111) t108.length co8 : Value).ownBlock) (fun _ => False) rfl rfl ?aP (fun _ hk => hk.elim) ?aF ?aO ?aB ?aS ?aL ?_; (case aP => exact rfl); (case aB => exact (by repeat (first | (with_reducible first | exact HB.out | apply below_alloc | apply pw_below_drewN | apply below_drew1) | exact HB.out))); (case aF => exact (fun k_ hk => Kd.fresh' (Kd.R_lt (by (with_reducible repeat (first | apply Kd.R_alloc | apply Kd.R_drewN | apply Kd.R_drew)); exact HO_20.out)) k_ hk)); (case aO => exact (by (with_reducible repeat (first | apply Kd.R_alloc | apply Kd.R_drewN | apply Kd.R_drew)); exact HO_4.out)); (case aS => exact (below_size (by repeat (first | (with_reducible first | exact HB.out | apply below_alloc | apply pw_below_drewN | apply below_drew1) | exact HB.out)))); (case aL => have := LMc36.out; omega); intro v128 w39 ho hb hg hat; rw [← Ny127.out] at ho; have n0_ := Aside0.mk (Kd.R_over' (by (with_reducible repeat (first | apply Kd.R_alloc | apply Kd.R_drewN | apply Kd.R_drew)); exact HO_5.out) (Kd.R_typed (by (with_reducible repeat (first | apply Kd.R_alloc | apply Kd.R_drewN | apply Kd.R_drew)); exact HO_4.out)) (by decide) hg); have n1_ := Aside0.mk (Kd.R_after (ok := (fun _ => True)) (by (with_reducible repeat (first | apply Kd.R_alloc | apply Kd.R_drewN | apply Kd.R_drew)); exact Kd.R_mono HO_20.out (fun _ hk => ⟨trivial, hk⟩)) hg hat); have n2_ := Aside0.mk (hb); have n3_ := Aside0.mk (ho); clear HO_5; clear HO_20; clear HB; clear HO_4; have HO_5 := n0_; have HO_20 := n1_; have HB := n2_; have HO129 := n3_; clear n0_ n1_ n2_ n3_; clear ho hb hg hat) | ((with_reducible refine gate_builtin (b := .append) (xs := #[.tmp 34, .tmp 35]) rfl ?_); (try (refine gate_guard (by rfl) ?_; dsimp only)); at_builtin; refine Kd.R_append (Kd.int .u8) (w0 := w) w.heap.size rfl (.tmp 34) (.tmp 35) 60 5 (.int .u8 0) 1 rfl Try.underlying60 info5 rfl (by decide) (by omega) u5 x5_2 40 [.int .u8 40] (fun _ => True) (fun _ => False) rfl rfl ?aP (fun _ hk => hk.elim) ?aF ?aO ?aB ?aS ?aL ?_; (case aP => exact rfl); (case aB => exact (by repeat (first | (with_reducible first | exact HB.out | apply below_alloc | apply pw_below_drewN | apply below_drew1) | exact HB.out))); (case aF => exact (fun _ _ => trivial)); (case aO => exact (by (with_reducible repeat (first | apply Kd.R_alloc | apply Kd.R_drewN | apply Kd.R_drew)); exact HO_5.out)); (case aS => exact (below_size (by repeat (first | (with_reducible first | exact HB.out | apply below_alloc | apply pw_below_drewN | apply below_drew1) | exact HB.out)))); (case aL => have := LMc37.out; omega); intro v131 w40 ho hb hg hat; rw [← Ny130.out] at ho; have n0_ := Aside0.mk (Kd.R_over' (by (with_reducible repeat (first | apply Kd.R_alloc | apply Kd.R_drewN | apply Kd.R_drew)); exact HO_20.out) (Kd.R_typed (by (with_reducible repeat (first | apply Kd.R_alloc | apply Kd.R_drewN | apply Kd.R_drew)); exact HO_5.out)) (by decide) hg); have n1_ := Aside0.mk (Kd.R_over' (by (with_reducible repeat (first | apply Kd.R_alloc | apply Kd.R_drewN | apply Kd.R_drew)); exact HO129.out) (Kd.R_typed (by (with_reducible repeat (first | apply Kd.R_alloc | apply Kd.R_drewN | apply Kd.R_drew)); exact HO_5.out)) (by decide) hg); have n2_ := Aside0.mk (hb); have n3_ := Aside0.mk (ho); clear HO_20; clear HO129; clear HB; clear HO_5; have HO_20 := n0_; have HO129 := n1_; have HB := n2_; have HO132 := n3_; clear n0_ n1_ n2_ n3_; clear ho hb hg hat))
                 go_roundg kj13
                 case measure => have := HJ1.out; have := HK2.out; have := HJ13.out; omega
                 case rel => exact ⟨(y127), (y130), (wrap64 (x22_2 + 1)), (by first | rfl | (simp; done) | (simp [*]; done)), H', ⟨by have := HJ1.out; have := HK2.out; have := HJ13.out; omega⟩, ⟨by (with_reducible repeat (first | apply Kd.R_alloc | apply Kd.R_drewN | apply Kd.R_drew)); exact HO129.out⟩, ⟨by (with_reducible repeat (first | apply Kd.R_alloc | apply Kd.R_drewN | apply Kd.R_drew)); exact HO132.out⟩, ⟨by (with_reducible repeat (first | apply Kd.R_alloc | apply Kd.R_drewN | apply Kd.R_drew)); exact Kd.R_mono HO_20.out (fun _ hk => hk.2)⟩, ⟨by repeat (first | (with_reducible first | exact HB.out | apply below_alloc | apply pw_below_drewN | apply below_drew1) | exact HB.out)⟩⟩
                ·rw [if_neg c37] at H
                 exact absurd H (by simp)
               ·rw [if_neg c36] at H
                exact absurd H (by simp)
          ·rw [if_neg c13] at H
           exact absurd H (by simp)
         ·rw [if_neg c12] at H
          exact absurd H (by simp)
        ·rw [if_neg c11] at H
         exact absurd H (by simp)
       ·rw [if_neg c10] at H
        exact absurd H (by simp)
      ·rw [if_neg c9] at H
       have c9b0 : decide (x22_2 < (t108.length : Int)) = false := decide_eq_false c9
       clear c9
       simp only [Option.some.injEq, Prod.mk.injEq] at H
       obtain ⟨rfl, rfl⟩ := H
       have hcv41 := own_string (P := Try.prog) Try.underlying60 Try.underlying5 Try.underlying9 (Kd.own_of_R HO_5.out)
       obtain ⟨Ao42, co42, eo42⟩ := Kd.R_slice HO_4.out
       subst eo42
       go_wp2
       go_ret2
       exact ⟨by first | rfl | (simp [errW_none, errW_some] <;> rfl) | (simp [*, errW_none, errW_some] <;> rfl), by repeat (first | (with_reducible first | exact HB.out | apply below_alloc | apply pw_below_drewN | apply below_drew1) | exact HB.out)⟩
/-! ### plait_of: function 54 -/
/-- the errors of a diagram, by the program -/
def plait_of.f (k : Nat) (l0 : List Int) : Option (Int) := if (l0.length : Int) > 20 then (some 3) else ((plait_diagram_arches.f k l0).bind fun bt => (if bt.2 = true then (some 0) else (some 2)))
/-- the diagram that is handed back: the very list, where there is no error -/
def plait_of.val (r : Int) (s : Value) : Value := if r = 0 then s else .slice none 0 0
theorem plait_of.val0 (r : Int) (s : Value) (h : (r == 0) = true) : plait_of.val r s = s := by unfold plait_of.val; rw [if_pos (by simpa using h)]
theorem plait_of.mono : ∀ a0 k, LeO (plait_of.f k a0) (plait_of.f (k + 1) a0) := fun _ k =>
 LeO.ite (LeO.refl _) (LeO.bind (plait_diagram_arches.mono _ k) (fun _ => LeO.refl _))
set_option maxHeartbeats 1000000 in
theorem plait_of.calls (k : Nat) (A0 : Option Addr) (c0 : Nat) (l0 : List Int) (r : Int) (w : World) (hr0 : Kd.C (Kd.int .i64) w A0 l0.length l0) (hc0 : l0.length ≤ c0) (h : plait_of.f k l0 = some r) :
  Calls Try.prog 54 #[.slice A0 l0.length c0] w fun e w' => e = .returned (.tuple #[plait_of.val r (.slice A0 l0.length c0), .int .i64 r]) ∧ Below w.heap.size w w' := by
 have HR := Lib.hid hr0
 have HC := Lib.hid hc0
 unfold plait_of.f at h
 obtain ⟨n, hn⟩ : ∃ n, l0.length = n := ⟨_, rfl⟩
 have hcall := plait_diagram_arches.calls k A0 c0 l0
 rw [hn] at hcall h ⊢
 by_cases c1 : (n : Int) > 20
 ·rw [if_pos c1] at h
  have d1 : decide ((20 : Int) < (n : Int)) = true := decide_eq_true (by omega)
  have h2 := Option.some.inj h
  subst h2
  clear hr0 hc0 h hn hcall HR HC
  go_enter Try.func54, Try.ntmps54
  go_wp2
  go_ret2
  exact ⟨rfl, Below.refl _ _⟩
 ·rw [if_neg c1] at h
  have d1 : decide ((20 : Int) < (n : Int)) = false := decide_eq_false (by omega)
  obtain ⟨⟨s, ok⟩, h1, h⟩ := Option.bind_eq_some_iff.1 h
  have hca := fun w hR hC => hcall s ok w hR hC h1
  rw [hn] at hr0 hc0
  have HR := Lib.hid hr0
  have HC := Lib.hid hc0
  have HCA := Lib.hid hca
  cases ok with
  | true =>
   have h2 := Option.some.inj h
   subst h2
   clear hr0 hc0 h hn hcall h1 hca c1
   go_enter Try.func54, Try.ntmps54
   go_wp2_with (go_at_call 71; refine (HCA.out _ HR.out HC.out).mono ?_; rintro e wa ⟨rfl, hba⟩; have HBA := Lib.hid hba; clear hba)
   go_ret2
   exact ⟨rfl, HBA.out⟩
  | false =>
   have h2 := Option.some.inj h
   subst h2
   clear hr0 hc0 h hn hcall h1 hca c1
   go_enter Try.func54, Try.ntmps54
   go_wp2_with (go_at_call 71; refine (HCA.out _ HR.out HC.out).mono ?_; rintro e wa ⟨rfl, hba⟩; have HBA := Lib.hid hba; clear hba)
   go_ret2
   exact ⟨rfl, HBA.out⟩
/-! ### pomadelaw07_same: function 23 -/
def pomadelaw07_same.l0 : Nat → List Int → List Int → Int → Option (Bool)
 | 0, _, _, _ => none
 | k + 1, x0, x1, x5 => if x5 < (x0.length : Int) then (if 0 ≤ x5 then (if x5 < (x1.length : Int) then (if (rd x0 x5) = (rd x1 x5) then (pomadelaw07_same.l0 k x0 x1 (wrap64 (x5 + 1))) else (some false)) else (none)) else (none)) else (some true)
def pomadelaw07_same.f (k : Nat) (l0 : List Int) (l1 : List Int) : Option (Bool) := if (l0.length : Int) = (l1.length : Int) then (pomadelaw07_same.l0 k l0 l1 0) else (some false)
theorem pomadelaw07_same.mono_l : ∀ k, (∀ y0 y1 y2, LeO (pomadelaw07_same.l0 k y0 y1 y2) (pomadelaw07_same.l0 (k + 1) y0 y1 y2))
 | 0 => fun _ _ _ r h => by simp [pomadelaw07_same.l0] at h
 | k + 1 => by
  have ih0 := pomadelaw07_same.mono_l k
  ·intro y0 y1 y2
   unfold pomadelaw07_same.l0
   repeat' first
   | (with_reducible exact ih0 _ _ _)
   | (with_reducible exact LeO.refl _)
   | (with_reducible exact LeO.none _)
   | (with_reducible refine LeO.ite ?_ ?_)
   | (with_reducible refine LeO.bind ?_ (fun _ => ?_))
   | exact ih0 _ _ _
   | exact LeO.none _
   | refine LeO.ite ?_ ?_
   | refine LeO.bind ?_ (fun _ => ?_)
theorem pomadelaw07_same.mono : ∀ a0 a1 k, LeO (pomadelaw07_same.f k a0 a1) (pomadelaw07_same.f (k + 1) a0 a1) := by
 intro a0 a1 k
 have ih0 := pomadelaw07_same.mono_l k
 unfold pomadelaw07_same.f
 repeat' first
   | (with_reducible exact ih0 _ _ _)
   | (with_reducible exact LeO.refl _)
   | (with_reducible exact LeO.none _)
   | (with_reducible refine LeO.ite ?_ ?_)
   | (with_reducible refine LeO.bind ?_ (fun _ => ?_))
   | exact ih0 _ _ _
   | exact LeO.none _
   | refine LeO.ite ?_ ?_
   | refine LeO.bind ?_ (fun _ => ?_)
set_option maxHeartbeats 8000000 in
set_option maxRecDepth 100000 in
theorem pomadelaw07_same.calls (k : Nat) (A0 : Option Addr) (c0 : Nat) (l0 : List Int) (A1 : Option Addr) (c1 : Nat) (l1 : List Int) (r : Bool) (w : World) (hr0 : Kd.C (Kd.int .i64) w A0 l0.length l0) (hc0 : l0.length ≤ c0) (hr1 : Kd.C (Kd.int .i64) w A1 l1.length l1) (hc1 : l1.length ≤ c1) (h : pomadelaw07_same.f k l0 l1 = some r) :
  Calls Try.prog 23 #[.slice A0 l0.length c0, .slice A1 l1.length c1] w fun e w' => e = .returned (.bool r) ∧ Drawn0 w w' := by
 have HR0 := Aside0.mk hr0
 have HC0 := Aside0.mk hc0
 clear hr0 hc0
 have HR1 := Aside0.mk hr1
 have HC1 := Aside0.mk hc1
 clear hr1 hc1
 have H : (if (l0.length : Int) = (l1.length : Int) then (pomadelaw07_same.l0 k l0 l1 0) else (some false)) = some r := h
 clear h
 by_cases c3 : (l0.length : Int) = (l1.length : Int)
 ·rw [if_pos c3] at H
  have c3b0 : ((l0.length : Int) == (l1.length : Int)) = true := beq_iff_eq.mpr c3
  have c3b1 : ((l0.length : Int) != (l1.length : Int)) = false := bne_eq_false_iff_eq.mpr c3
  have c3b2 : (l0.length == l1.length) = true := by first | simpa using c3 | (simp at c3 ⊢; omega)
  clear c3
  have H' := Aside0.mk H
  clear H
  go_enter Try.func23, Try.ntmps23
  go_wp2
  repeat (go_quiet (fail); try go_wp2)
  go_loopg [5] k (fun kq v5 w' => ∃ (x5_1 : Int), v5 = .int .i64 x5_1 ∧ Aside0 (pomadelaw07_same.l0 kq l0 l1 x5_1 = some r) ∧ Aside0 (kq ≤ k) ∧ Drawn0 w w')
  case atStart => exact ⟨(0), (by first | rfl | (simp; done) | (simp [*]; done)), H', ⟨Nat.le_refl _⟩, by repeat (first | exact Drawn0.refl _ | apply Drawn0.step)⟩
  case round =>
   clear H'
   try clear c1
   try clear c2
   try clear p2
   try clear c3
   try clear c3b0
   try clear c3b1
   try clear c3b2
   obtain ⟨x5_1, rfl, HA, HK1, ⟨m1, rfl⟩⟩ := hrel
   cases gk with
   | zero => exact absurd HA.out (by simp [pomadelaw07_same.l0])
   | succ k1 =>
    have H := HA.out
    clear HA
    simp only [pomadelaw07_same.l0] at H
    by_cases c4 : x5_1 < (l0.length : Int)
    ·rw [if_pos c4] at H
     have c4b0 : decide (x5_1 < (l0.length : Int)) = true := decide_eq_true c4
     clear c4
     by_cases c5 : 0 ≤ x5_1
     ·rw [if_pos c5] at H
      have c5b0 : decide (0 ≤ x5_1) = true := decide_eq_true c5
      clear c5
      by_cases c6 : x5_1 < (l1.length : Int)
      ·rw [if_pos c6] at H
       have c6b0 : decide (x5_1 < (l1.length : Int)) = true := decide_eq_true c6
       clear c6
       by_cases c7 : (rd l0 x5_1) = (rd l1 x5_1)
       ·rw [if_pos c7] at H
        have c7b0 : ((rd l0 x5_1) == (rd l1 x5_1)) = true := beq_iff_eq.mpr c7
        have c7b1 : ((rd l0 x5_1) != (rd l1 x5_1)) = false := bne_eq_false_iff_eq.mpr c7
        clear c7
        have H' := Aside0.mk H
        clear H
        have p178 : 0 ≤ (x5_1 : Int) := of_decide_eq_true (by first | (with_reducible assumption) | assumption)
        have q178 : x5_1 < (l0.length : Int) := of_decide_eq_true (by first | (with_reducible assumption) | assumption)
        obtain ⟨ad178, e178, hx178_0⟩ := Kd.at_int HR0.out x5_1 p178 q178
        cases e178
        replace p178 := eq_true p178
        replace q178 := eq_true q178
        have p179 : 0 ≤ (x5_1 : Int) := of_decide_eq_true (by first | (with_reducible assumption) | assumption)
        have q179 : x5_1 < (l1.length : Int) := of_decide_eq_true (by first | (with_reducible assumption) | assumption)
        obtain ⟨ad179, e179, hx179_0⟩ := Kd.at_int HR1.out x5_1 p179 q179
        cases e179
        replace p179 := eq_true p179
        replace q179 := eq_true q179
        go_wp2
        repeat (go_quiet (fail); try go_wp2)
        go_roundg k1
        case measure => have := HK1.out; omega
        case rel => exact ⟨(wrap64 (x5_1 + 1)), (by first | rfl | (simp; done) | (simp [*]; done)), H', ⟨by have := HK1.out; omega⟩, by repeat (first | exact Drawn0.refl _ | apply Drawn0.step)⟩
       ·rw [if_neg c7] at H
        have c7b0 : ((rd l0 x5_1) == (rd l1 x5_1)) = false := beq_eq_false_iff_ne.mpr c7
        have c7b1 : ((rd l0 x5_1) != (rd l1 x5_1)) = true := bne_iff_ne.mpr c7
        obtain rfl := Option.some.inj H
        have p178 : 0 ≤ (x5_1 : Int) := of_decide_eq_true (by first | (with_reducible assumption) | assumption)
        have q178 : x5_1 < (l0.length : Int) := of_decide_eq_true (by first | (with_reducible assumption) | assumption)
        obtain ⟨ad178, e178, hx178_0⟩ := Kd.at_int HR0.out x5_1 p178 q178
        cases e178
        replace p178 := eq_true p178
        replace q178 := eq_true q178
        have p179 : 0 ≤ (x5_1 : Int) := of_decide_eq_true (by first | (with_reducible assumption) | assumption)
        have q179 : x5_1 < (l1.length : Int) := of_decide_eq_true (by first | (with_reducible assumption) | assumption)
        obtain ⟨ad179, e179, hx179_0⟩ := Kd.at_int HR1.out x5_1 p179 q179
        cases e179
        replace p179 := eq_true p179
        replace q179 := eq_true q179
        go_wp2
        repeat (go_quiet (fail); try go_wp2)
        go_ret
        exact ⟨by first | rfl | (simp; done) | (simp [*]; done), by repeat (first | exact Drawn0.refl _ | apply Drawn0.step)⟩
      ·rw [if_neg c6] at H
       exact absurd H (by simp)
     ·rw [if_neg c5] at H
      exact absurd H (by simp)
    ·rw [if_neg c4] at H
     have c4b0 : decide (x5_1 < (l0.length : Int)) = false := decide_eq_false c4
     clear c4
     obtain rfl := Option.some.inj H
     go_wp2
     repeat (go_quiet (fail); try go_wp2)
     go_ret
     exact ⟨by first | rfl | (simp; done) | (simp [*]; done), by repeat (first | exact Drawn0.refl _ | apply Drawn0.step)⟩
 ·rw [if_neg c3] at H
  have c3b0 : ((l0.length : Int) == (l1.length : Int)) = false := beq_eq_false_iff_ne.mpr c3
  have c3b1 : ((l0.length : Int) != (l1.length : Int)) = true := bne_iff_ne.mpr c3
  have c3b2 : (l0.length == l1.length) = false := by first | simpa using c3 | (simp at c3 ⊢; omega)
  obtain rfl := Option.some.inj H
  go_enter Try.func23, Try.ntmps23
  go_wp2
  repeat (go_quiet (fail); try go_wp2)
  go_ret
  exact ⟨by first | rfl | (simp; done) | (simp [*]; done), by repeat (first | exact Drawn0.refl _ | apply Drawn0.step)⟩
/-! ### pomadelaw07_few: function 26 -/
def pomadelaw07_few.f (l0 : List Int) (l1 : List Int) : Option (Bool) := if (l0.length : Int) ≤ 50 then (some (decide ((l1.length : Int) ≤ 50))) else (some false)
set_option maxHeartbeats 8000000 in
set_option maxRecDepth 100000 in
theorem pomadelaw07_few.calls (A0 : Option Addr) (c0 : Nat) (l0 : List Int) (A1 : Option Addr) (c1 : Nat) (l1 : List Int) (r : Bool) (w : World) (hr0 : Kd.C (Kd.int .i64) w A0 l0.length l0) (hc0 : l0.length ≤ c0) (hr1 : Kd.C (Kd.int .i64) w A1 l1.length l1) (hc1 : l1.length ≤ c1) (h : pomadelaw07_few.f l0 l1 = some r) :
  Calls Try.prog 26 #[.slice A0 l0.length c0, .slice A1 l1.length c1] w fun e w' => e = .returned (.bool r) ∧ Drawn0 w w' := by
 have HR0 := Aside0.mk hr0
 have HC0 := Aside0.mk hc0
 clear hr0 hc0
 have HR1 := Aside0.mk hr1
 have HC1 := Aside0.mk hc1
 clear hr1 hc1
 have H : (if (l0.length : Int) ≤ 50 then (some (decide ((l1.length : Int) ≤ 50))) else (some false)) = some r := h
 clear h
 by_cases c3 : (l0.length : Int) ≤ 50
 ·rw [if_pos c3] at H
  have c3b0 : decide ((l0.length : Int) ≤ 50) = true := decide_eq_true c3
  have c3b1 : decide (l0.length ≤ 50) = true := decide_eq_true (by omega)
  clear c3
  obtain rfl := Option.some.inj H
  go_enter Try.func26, Try.ntmps26
  go_wp2
  go_ret
  exact ⟨by first | rfl | (simp; done) | (simp [*]; done), by repeat (first | exact Drawn0.refl _ | apply Drawn0.step)⟩
 ·rw [if_neg c3] at H
  have c3b0 : decide ((l0.length : Int) ≤ 50) = false := decide_eq_false c3
  have c3b1 : decide (l0.length ≤ 50) = false := decide_eq_false (by omega)
  clear c3
  obtain rfl := Option.some.inj H
  go_enter Try.func26, Try.ntmps26
  go_wp2
  go_ret
  exact ⟨by first | rfl | (simp; done) | (simp [*]; done), by repeat (first | exact Drawn0.refl _ | apply Drawn0.step)⟩
end Go.Proofs.Ytjfkompfkgjdaaa.PC
end
section
/- The product of two diagrams: the walk. -/
namespace Go.Proofs.Ytjfkompfkgjdaaa.PC
open Go.RowKit Go.Proofs.YtjfkompfkgjdaaaW.PrintWords Go.Proofs.YtjfkompfkgjdaaaW.PrintLast Go.Proofs.YtjfkompfkgjdaaaW.PrintMore
theorem size_same (A0 : Option Addr) (c0 len n : Nat) (w : World) (hl : len = 2 * n) (hn : n ≤ 1000) : Calls Try.prog 72 #[.slice A0 len c0] w fun e w' => e = .returned (.int .i64 (n : Int)) ∧ w = w' := by
  subst hl
  have h1 : ((2 * n : Nat) : Int) / 2 = (n : Int) := by omega
  go_enter Try.func72, Try.ntmps72
  go_wp2
  go_ret
  exact ⟨by first | rfl | (congr 2), rfl⟩
/-- the state of the walk: what lay below is as it was; the variables; the diagram that is made -/
structure PR (w0 : World) (sd so : Value) (n : Nat) (T : List Bool) (out : List Int) (W : World) : Prop where
  below : Below w0.heap.size w0 W
  q : PQ w0.heap.size (w0.heap.size + 1) (w0.heap.size + 1 + 1) (w0.heap.size + 1 + 1 + 1 + 1 + 1) (w0.heap.size + 1 + 1 + 1 + 1) sd so n T W
  fout : W.heap[w0.heap.size + 1 + 1 + 1]? = some (.cells (nums .i64 out).toArray 3 (0, 0))
  flen : out.length = 2 * n
theorem PR.only {w0 W W' : World} {sd so : Value} {n : Nat} {T T' : List Bool} {out : List Int} (h : PR w0 sd so n T out W) (k : Only (w0.heap.size + 1 + 1 + 1 + 1) W W') (hq : PQ w0.heap.size (w0.heap.size + 1) (w0.heap.size + 1 + 1) (w0.heap.size + 1 + 1 + 1 + 1 + 1) (w0.heap.size + 1 + 1 + 1 + 1) sd so n T' W') : PR w0 sd so n T' out W' :=
  ⟨h.below.trans (k.below (by omega)), hq, (k.block _ (by omega)).trans h.fout, h.flen⟩
theorem PR.put {w0 W : World} {sd so : Value} {n : Nat} {T : List Bool} {out : List Int} (h : PR w0 sd so n T out W) (i : Nat) (x : Int) : PR w0 sd so n T (out.set i x) (W.setCell ⟨w0.heap.size + 1 + 1 + 1, i, none⟩ (.int .i64 x)) := by
  refine ⟨h.below.trans ((Only.set W _ i _).below (by omega)), h.q.only (Only.set W _ i _) (by omega) (by omega) (by omega) (by omega) (by omega), ?_, by rw [List.length_set]; exact h.flen⟩
  rw [heap_set h.fout]
  simp [nums, List.map_set]
theorem PR.cell {w0 W : World} {sd so : Value} {n : Nat} {T : List Bool} {out : List Int} (h : PR w0 sd so n T out W) (i : Nat) (hi : i < 2 * n) : (∃ u, W.cell? ⟨w0.heap.size + 1 + 1 + 1, i, none⟩ = some u) ∧ W.frozen? ⟨w0.heap.size + 1 + 1 + 1, i, none⟩ = false := by
  have := h.flen
  have hi' : i < out.length := by omega
  exact ⟨⟨.int .i64 (out[i]), by simp [World.cell?, h.fout, nums, hi']⟩, by simp [World.frozen?, h.fout]⟩
theorem PQ.drew {Bd Bo Bn Bs S : Nat} {sd so : Value} {n : Nat} {T : List Bool} {W : World} (h : PQ Bd Bo Bn Bs S sd so n T W) : PQ Bd Bo Bn Bs S sd so n T W.drew := ⟨h.fd, h.fo, h.fn, h.fs, h.row, h.len⟩
theorem PR.drew {w0 W : World} {sd so : Value} {n : Nat} {T : List Bool} {out : List Int} (h : PR w0 sd so n T out W) : PR w0 sd so n T out W.drew := ⟨h.below.drew, h.q.drew, h.fout, h.flen⟩
theorem PR.drewN {w0 W : World} {sd so : Value} {n : Nat} {T : List Bool} {out : List Int} (h : PR w0 sd so n T out W) (k : Nat) : PR w0 sd so n T out (W.drewN k) := ⟨⟨h.below.os, h.below.tape, h.below.output, h.below.size, h.below.block⟩, ⟨h.q.fd, h.q.fo, h.q.fn, h.q.fs, h.q.row, h.q.len⟩, h.fout, h.flen⟩
theorem PR.see {w0 W : World} {sd so : Value} {n : Nat} {T : List Bool} {out : List Int} (h : PR w0 sd so n T out W) (i : Nat) : PR w0 sd so n (T.set i true) out (W.setCell ⟨w0.heap.size + 1 + 1 + 1 + 1, i, none⟩ (.bool true)) := h.only (Only.set _ _ _ _) (h.q.mark i)
theorem made_int (M : Nat) : madeCells #[Value.int .i64 0] M = (nums .i64 (List.replicate M 0)).toArray := by
  apply Array.ext
  · simp [madeCells, nums]
  · intro i h1 h2
    simp [madeCells, nums, Nat.mod_one]
theorem made_bool (M : Nat) : madeCells #[Value.bool false] M = ((List.replicate M false).map Value.bool).toArray := by
  apply Array.ext
  · simp [madeCells]
  · intro i h1 h2
    simp [madeCells, Nat.mod_one]
theorem PR.start (w : World) (sd so : Value) (n : Nat) : PR w sd so n (List.replicate n false) (List.replicate (2 * n) 0) ((((((w.alloc (.cells #[sd] 65)).alloc (.cells #[so] 65)).alloc (.cells #[.int .i64 (n : Int)] 3)).alloc (.cells (madeCells #[.int .i64 0] (2 * n)) 3)).alloc (.cells (madeCells #[.bool false] n) 4)).alloc (.cells #[.slice (some ⟨w.heap.size + 1 + 1 + 1 + 1, 0, none⟩) n n] 69)) := by
  refine ⟨((((((Below.refl _ _).alloc (Nat.le_refl _) _).alloc (by simp) _).alloc (by simp; omega) _).alloc (by simp; omega) _).alloc (by simp; omega) _).alloc (by simp; omega) _, ⟨?_, ?_, ?_, ?_, ?_, by simp⟩, ?_, by simp⟩
  all_goals simp only [World.alloc, Array.getElem?_push, Array.size_push, made_int, made_bool]
  · rw [if_neg (by omega), if_neg (by omega), if_neg (by omega), if_neg (by omega), if_neg (by omega), if_pos trivial]
  · rw [if_neg (by omega), if_neg (by omega), if_neg (by omega), if_neg (by omega), if_pos trivial]
  · rw [if_neg (by omega), if_neg (by omega), if_neg (by omega), if_pos trivial]
  · rw [if_pos trivial]
  · rw [if_neg (by omega), if_pos trivial]
  · rw [if_neg (by omega), if_neg (by omega), if_pos trivial]
theorem R_of_ints {W : World} {g base : Nat} {xs : List Int} (h : W.heap[g]? = some (.cells (nums .i64 xs).toArray 3 (0, 0))) (hb : base ≤ g) (hl : xs.length ≤ 1000000) : Kd.R (Kd.int .i64) 3 W base (fun _ => True) (.slice (some ⟨g, 0, none⟩) xs.length xs.length) xs :=
  Kd.R_of_own ⟨by simp [encs], .inr ⟨g, xs.length, _, rfl, hb, h, Nat.le_refl _, by unfold maxLen; omega, by simp [nums], by simp [encs, nums, List.take_of_length_le]⟩⟩ (fun _ _ => trivial)
set_option maxHeartbeats 4000000 in
theorem product_walk (A0 : Option Addr) (c0 : Nat) (l0 : List Int) (A1 : Option Addr) (c1 : Nat) (l1 : List Int) (n len : Nat) (w : World) (hr0 : Kd.C (Kd.int .i64) w A0 len l0) (hr1 : Kd.C (Kd.int .i64) w A1 len l1)
    (hl0 : l0.length = len) (hl1 : l1.length = len) (hlen : len = 2 * n) (hn : n ≤ 500) (out : List Int) (T : List Bool) (many : Nat)
    (h1 : plait_ways l0 l1 n n 0 (List.replicate len 0) (List.replicate n false) = some (out, T)) (h2 : plait_loops l0 l1 n n 0 0 T = some many) :
    Calls Try.prog 66 #[.slice A0 len c0, .slice A1 len c1] w fun e w' => e = .returned (.tuple #[.slice (some ⟨w.heap.size + 1 + 1 + 1, 0, none⟩) (2 * n) (2 * n), .int .i64 (many : Int)]) ∧ ∃ T', PR w (.slice A0 len c0) (.slice A1 len c1) n T' out w' := by
  have HR0 := Lib.hid hr0
  have HR1 := Lib.hid hr1
  have HL0 := Lib.hid hl0
  have HL1 := Lib.hid hl1
  have HLN := Lib.hid hlen
  have H1 := Lib.hid h1
  have H2 := Lib.hid h2
  have hsz := size_same A0 c0 len n
  have HSZ := Lib.hid hsz
  have hmk1 := @print_make_of Try.prog 65 3 (.int .i64 0) 8 Try.underlying65 info3 rfl (by decide) (2 * n) (by omega)
  have hmk2 := @print_make_of Try.prog 69 4 (.bool false) 1 Try.underlying69 info4 rfl (by decide) n (by omega)
  have e2n : ((2 * n : Nat) : Int) = 2 * (n : Int) := by omega
  rw [e2n] at hmk1
  clear e2n
  clear hr0 hr1 hl0 hl1 hlen h1 h2 hsz
  go_enter Try.func66, Try.ntmps66
  go_wp2_with (first | (go_at_call 72; refine (HSZ.out _ HLN.out (by omega)).mono ?_; rintro e w' ⟨rfl, rfl⟩))
  go_loopw [24] (fun t w' => ∃ (j : Nat) (out1 : List Int) (T1 : List Bool), j ≤ n ∧ t = .int .i64 (j : Int) ∧ Hid (plait_ways l0 l1 n (n - j) j out1 T1 = some (out, T)) ∧ Hid (PR w (.slice A0 len c0) (.slice A1 len c1) n T1 out1 w')) (fun t _ => n - (intOf t).toNat)
  case atStart => exact ⟨0, _, _, Nat.zero_le _, rfl, by rw [Nat.sub_zero]; exact H1, by rw [HLN.out]; exact PR.start w _ _ n⟩
  case round =>
    obtain ⟨j, out1, T1, hj, rfl, HA, HP⟩ := hrel
    obtain ⟨wo, rfl⟩ : ∃ wo : World, wo = wr := ⟨_, rfl⟩
    have hcn := cell_one HP.out.q.fn
    by_cases hlt : j < n
    · have d1 : decide ((j : Int) < (n : Int)) = true := decide_eq_true (by omega)
      have h := HA.out
      rw [show n - j = (n - (j + 1)) + 1 by omega] at h
      simp only [plait_ways] at h
      obtain ⟨⟨q1, T2⟩, ha, h⟩ := Option.bind_eq_some_iff.1 h
      obtain ⟨⟨q2, T3⟩, hb, h⟩ := Option.bind_eq_some_iff.1 h
      have HH := Lib.hid h
      have HW1 := Lib.hid ha
      rw [show (((n + j : Nat)) : Int) = (n : Int) + (j : Int) by omega] at hb
      have HW2 := Lib.hid hb
      clear ha hb h HA
      obtain ⟨⟨u1, hu1⟩, hf1⟩ := HP.out.cell j (by omega)
      have hjj : (j : Int) < ((2 * n : Nat) : Int) := by omega
      go_wp2_with (first | (go_at_call 86; refine (way_walk (2 * n + 2) A0 c0 l0 A1 c1 l1 n len w.heap.size _ _ _ _ w _ HR0.out HR1.out HL0.out HL1.out HLN.out (by omega) HP.out.below (by omega) true (j : Int) T1 T2 q1 HP.out.q HW1.out).mono ?_; rintro e w' ⟨rfl, hq', ho'⟩; have HP2 := Lib.hid (HP.out.only ho' hq'); obtain ⟨⟨u2, hu2⟩, hf2⟩ := HP2.out.cell j (by omega); have HP3 := Lib.hid (HP2.out.put j q1); have hcn3 := cell_one HP3.out.q.fn; clear hq' ho' hu1 hf1))
      have e1 : IntKind.i64.wrap ((n : Int) + (j : Int)) = (n : Int) + (j : Int) := IntWalk.i64_in _ (by omega)
      have e2 : 0 ≤ (n : Int) + (j : Int) := by omega
      have e3 : ((n : Int) + (j : Int)).toNat = n + j := by omega
      have e4 : (n : Int) + (j : Int) < ((2 * n : Nat) : Int) := by omega
      have e5 : (n : Int) + (j : Int) < 2 * (n : Int) := by omega
      have HE : Hid (w.heap.size ≤ w.heap.size + 1 + 1 + 1 + 1 ∧ n ≤ 1000 ∧ n + j < 2 * n) := ⟨by omega, by omega, by omega⟩
      clear hjj hcn
      go_region_held3 (fun W => W.cell? ⟨w.heap.size + 1 + 1, 0, none⟩ = some (.int .i64 (n : Int)))
        (first | exact hcn3 | exact hcn4 | exact hcn5)
        (first | (go_at_call 86; refine (way_walk (2 * n + 2) A0 c0 l0 A1 c1 l1 n len w.heap.size _ _ _ _ w _ HR0.out HR1.out HL0.out HL1.out HLN.out HE.out.2.1 HP3.out.drew.below HE.out.1 false ((n : Int) + (j : Int)) T2 T3 q2 HP3.out.drew.q HW2.out).mono ?_; rintro e w4 ⟨rfl, hq', ho'⟩; have HP4 := Lib.hid (HP3.out.drew.only ho' hq'); obtain ⟨⟨u4, hu4⟩, hf4⟩ := HP4.out.cell (n + j) HE.out.2.2; have hcn4 := cell_one HP4.out.q.fn; have HP5 := Lib.hid (HP4.out.put (n + j) q2); have hcn5 := cell_one HP5.out.q.fn; clear hq' ho'))
      clear e1 e2 e3 e4 e5
      go_wp2
      go_roundw
      case rel => exact ⟨j + 1, _, _, by omega, by go_num, HH, HP5⟩
      case measure => simp [intOf]; omega
    · obtain rfl : j = n := by omega
      have d1 : decide ((j : Int) < (j : Int)) = false := decide_eq_false (by omega)
      have h := HA.out
      rw [Nat.sub_self] at h
      simp only [plait_ways] at h
      have h := Option.some.inj h
      obtain ⟨rfl, rfl⟩ := Prod.mk.inj h
      clear h HA
      go_wp2
      go_loopw [11, 45] (fun u t w' => ∃ (i many1 : Nat) (T2 : List Bool), i ≤ j ∧ u = .int .i64 (many1 : Int) ∧ many1 ≤ i ∧ t = .int .i64 (i : Int) ∧ Hid (plait_loops l0 l1 j (j - i) i many1 T2 = some many) ∧ Hid (PR w (.slice A0 len c0) (.slice A1 len c1) j T2 out1 w')) (fun _ t _ => j - (intOf t).toNat)
      case atStart => exact ⟨0, 0, _, Nat.zero_le _, rfl, Nat.le_refl _, rfl, by rw [Nat.sub_zero]; exact H2, HP⟩
      case round =>
        obtain ⟨i, many1, T2, hi, rfl, hmi, rfl, HA, HP2⟩ := hrel
        obtain ⟨wo2, rfl⟩ : ∃ wo2 : World, wo2 = wr := ⟨_, rfl⟩
        clear hcn
        have hcs := cell_one HP2.out.q.fs
        by_cases hlt2 : i < j
        · have d2 : decide ((i : Int) < (j : Int)) = true := decide_eq_true (by omega)
          obtain ⟨hs1, hs2⟩ := HP2.out.q.seen i hlt2
          have h := HA.out
          rw [show j - i = (j - (i + 1)) + 1 by omega] at h
          simp only [plait_loops] at h
          cases hT : T2.getD i false with
          | true =>
            rw [hT] at h hs1
            simp only [if_true] at h
            have HH := Lib.hid h
            clear h HA hT
            go_wp2
            go_roundw
            case rel => exact ⟨i + 1, many1, _, by omega, rfl, by omega, by go_num, HH, HP2⟩
            case measure => simp [intOf]; omega
          | false =>
            rw [hT] at h hs1
            simp only [Bool.false_eq_true, if_false] at h
            obtain ⟨T', hr, h⟩ := Option.bind_eq_some_iff.1 h
            have HH := Lib.hid h
            have HRN := Lib.hid hr
            clear h HA hT hr
            go_wp2
            go_loopg [13] (j + 1) (fun kq v w' => ∃ (a : Int) (T3 : List Bool), v = .int .i64 a ∧ Hid (plait_round l0 l1 j kq a T3 = some T') ∧ Hid (kq ≤ j + 1) ∧ Hid (PR w (.slice A0 len c0) (.slice A1 len c1) j T3 out1 w'))
            case atStart => exact ⟨_, _, rfl, HRN, Nat.le_refl _, HP2⟩
            case round =>
              obtain ⟨a, T3, rfl, HA, HK, HP3⟩ := hrel
              clear hs1 hs2 hcs
              cases gk with
              | zero => exact absurd HA.out (by simp [plait_round])
              | succ k1 =>
                obtain ⟨wo3, rfl⟩ : ∃ wo3 : World, wo3 = wr := ⟨_, rfl⟩
                have h := HA.out
                clear HA
                simp only [plait_round] at h
                by_cases c1_ : 0 ≤ a ∧ a < (j : Int)
                · rw [if_pos c1_] at h
                  obtain ⟨p0, p1⟩ := c1_
                  have hcs := cell_one HP3.out.q.fs
                  obtain ⟨hs1, hs2⟩ := HP3.out.q.seen a.toNat (by omega)
                  cases hT : T3.getD a.toNat false with
                  | true =>
                    rw [hT] at h hs1
                    simp only [if_true] at h
                    have h := Option.some.inj h
                    subst h
                    clear hT
                    go_wp2
                    go_roundw
                    case rel => exact ⟨i + 1, many1 + 1, _, by omega, by go_num, by omega, by go_num, HH, HP3⟩
                    case measure => simp [intOf]; omega
                  | false =>
                    rw [hT] at h hs1
                    simp only [Bool.false_eq_true, if_false] at h
                    clear hT
                    by_cases c2_ : 0 ≤ rd l1 a ∧ rd l1 a < (j : Int)
                    · rw [if_pos c2_] at h
                      have hP4 := HP3.out.see a.toNat
                      have hP5 := hP4.see (rd l1 a).toNat
                      have hal : a < (len : Int) := by have := HLN.out; omega
                      obtain ⟨a1, e1, hx1⟩ := Kd.at_int (Kd.C_below HR1.out hP4.below) a p0 hal
                      obtain ⟨a0, e0, hx0⟩ := Kd.at_int (Kd.C_below HR0.out hP5.below) (rd l1 a + (j : Int)) (by omega) (by have := HLN.out; omega)
                      obtain ⟨hs3, hs4⟩ := hP4.q.seen (rd l1 a).toNat (by omega)
                      have hco := cell_one hP4.q.fo
                      have hcs4 := cell_one hP4.q.fs
                      have hcd := cell_one hP5.q.fd
                      have hcn5 := cell_one hP5.q.fn
                      obtain ⟨x, hx⟩ : ∃ x, rd l0 (rd l1 a + (j : Int)) = x := ⟨_, rfl⟩
                      rw [hx] at hx0
                      obtain ⟨y, hy⟩ : ∃ y, rd l1 a = y := ⟨_, rfl⟩
                      rw [hy] at hx1 hx0 hs3 hs4 hcd hcn5 c2_
                      obtain ⟨y0, y1⟩ := c2_
                      rw [hx, hy] at h
                      rw [hy] at hP5
                      have HH2 := Lib.hid h
                      have HP5 := Lib.hid hP5
                      have HX := Lib.hid hx
                      have HY := Lib.hid hy
                      subst e0 e1
                      have f1 : IntKind.i64.wrap (y + (j : Int)) = y + (j : Int) := IntWalk.i64_in _ (by omega)
                      have f2 : 0 ≤ y + (j : Int) := by omega
                      have f3 : y + (j : Int) < (len : Int) := by have := HLN.out; omega
                      have f4 : y < (len : Int) := by omega
                      clear h hP4 hP5 hx hy
                      go_wp2
                      go_quiet (fail)
                      clear f1 f2 f3 f4
                      go_wp2
                      go_roundg k1
                      case measure => have := HK.out; omega
                      case rel => exact ⟨_, _, rfl, HH2, Lib.hid (by have := HK.out; omega), Lib.hid (HP5.out.drewN _)⟩
                    · rw [if_neg c2_] at h
                      cases h
                · rw [if_neg c1_] at h
                  cases h
        · obtain rfl : i = j := by omega
          have d2 : decide ((i : Int) < (i : Int)) = false := decide_eq_false (by omega)
          have h := HA.out
          rw [Nat.sub_self] at h
          simp only [plait_loops] at h
          have h := Option.some.inj h
          subst h
          clear HA
          go_wp2
          go_ret2
          exact ⟨rfl, _, HP2.out⟩
end Go.Proofs.Ytjfkompfkgjdaaa.PC
end
section
namespace Go.Proofs.Ytjfkompfkgjdaaa.PC
open Go.RowKit Go.Proofs.YtjfkompfkgjdaaaW.PrintWords Go.Proofs.YtjfkompfkgjdaaaW.PrintLast Go.Proofs.YtjfkompfkgjdaaaW.PrintMore
attribute [local go_sem] max2_int min2_int max_two min_two max_three min_three max_four min_four   -- for this text's walks alone
set_option linter.unusedVariables false
set_option linter.unusedSimpArgs false
/-! ### plait_diagram_product: function 66 -/
def plait_diagram_product.f (l0 : List Int) (l1 : List Int) : Option (List Int × Int) :=
 if l0.length = l1.length ∧ l0.length = 2 * (l0.length / 2) ∧ l0.length ≤ 1000 then
  (plait_ways l0 l1 (l0.length / 2) (l0.length / 2) 0 (List.replicate l0.length 0) (List.replicate (l0.length / 2) false)).bind fun r =>
   (plait_loops l0 l1 (l0.length / 2) (l0.length / 2) 0 0 r.2).bind fun many => some (r.1, (many : Int))
 else none
theorem plait_diagram_product.calls (A0 : Option Addr) (c0 : Nat) (l0 : List Int) (A1 : Option Addr) (c1 : Nat) (l1 : List Int) (r1 : List Int) (r2 : Int) (w : World) (hr0 : Kd.C (Kd.int .i64) w A0 l0.length l0) (hc0 : l0.length ≤ c0) (hr1 : Kd.C (Kd.int .i64) w A1 l1.length l1) (hc1 : l1.length ≤ c1) (h : plait_diagram_product.f l0 l1 = some (r1, r2)) :
  Calls Try.prog 66 #[.slice A0 l0.length c0, .slice A1 l1.length c1] w fun e w' => ∃ v0_ : Value, e = .returned (.tuple #[v0_, .int .i64 r2]) ∧ Kd.R (Kd.int .i64) 3 w' w.heap.size (fun _ => True) v0_ r1 ∧ Below w.heap.size w w' := by
 unfold plait_diagram_product.f at h
 by_cases c : l0.length = l1.length ∧ l0.length = 2 * (l0.length / 2) ∧ l0.length ≤ 1000
 ·rw [if_pos c] at h
  obtain ⟨c1_, c2_, c3_⟩ := c
  obtain ⟨⟨out, T⟩, ha, h⟩ := Option.bind_eq_some_iff.1 h
  obtain ⟨many, hb, h⟩ := Option.bind_eq_some_iff.1 h
  have h := Option.some.inj h
  obtain ⟨rfl, rfl⟩ := Prod.mk.inj h
  rw [← c1_] at hr1 ⊢
  refine (product_walk A0 c0 l0 A1 c1 l1 (l0.length / 2) l0.length w hr0 hr1 rfl c1_.symm c2_ (by omega) out T many ha hb).mono ?_
  rintro e w' ⟨rfl, T', hP⟩
  have hl := hP.flen
  have hR := R_of_ints (base := w.heap.size) hP.fout (by omega) (by omega)
  rw [hl] at hR
  exact ⟨_, rfl, hR, hP.below⟩
 ·rw [if_neg c] at h
  cases h
end Go.Proofs.Ytjfkompfkgjdaaa.PC
end
section
namespace Go.Proofs.Ytjfkompfkgjdaaa.PC
open Go.RowKit Go.Proofs.YtjfkompfkgjdaaaW.PrintWords Go.Proofs.YtjfkompfkgjdaaaW.PrintLast Go.Proofs.YtjfkompfkgjdaaaW.PrintMore
attribute [local go_sem] max2_int min2_int max_two min_two max_three min_three max_four min_four   -- for this text's walks alone
set_option linter.unusedVariables false
set_option linter.unusedSimpArgs false
/-! ### plait_Product: function 27 -/
attribute [local go_sem] plait_of.val0
def plait_Product.f (k : Nat) (l0 : List Int) (l1 : List Int) : Option (List Int × Int × Int) := (plait_of.f k l0).bind fun t233 => (if t233 = 0 then ((plait_of.f k l1).bind fun t234 => (if t234 = 0 then (if (l0.length : Int) = (l1.length : Int) then ((plait_diagram_product.f l0 l1).bind fun bt235 => (some (bt235.1, bt235.2, 0))) else (some (([] : List Int), 0, 2))) else (some (([] : List Int), 0, t234)))) else (some (([] : List Int), 0, t233)))
theorem plait_Product.mono : ∀ a0 a1 k, LeO (plait_Product.f k a0 a1) (plait_Product.f (k + 1) a0 a1) := by
 intro a0 a1 k
 unfold plait_Product.f
 repeat' first
   | (with_reducible exact plait_of.mono _ _)
   | (with_reducible exact LeO.refl _)
   | (with_reducible exact LeO.none _)
   | (with_reducible refine LeO.ite ?_ ?_)
   | (with_reducible refine LeO.bind ?_ (fun _ => ?_))
   | exact plait_of.mono _ _
   | exact LeO.none _
   | refine LeO.ite ?_ ?_
   | refine LeO.bind ?_ (fun _ => ?_)
set_option maxHeartbeats 8000000 in
set_option maxRecDepth 100000 in
theorem plait_Product.calls (k : Nat) (A0 : Option Addr) (c0 : Nat) (l0 : List Int) (A1 : Option Addr) (c1 : Nat) (l1 : List Int) (r1 : List Int) (r2 : Int) (r3 : Int) (w : World) (hr0 : Kd.C (Kd.int .i64) w A0 l0.length l0) (hc0 : l0.length ≤ c0) (hr1 : Kd.C (Kd.int .i64) w A1 l1.length l1) (hc1 : l1.length ≤ c1) (h : plait_Product.f k l0 l1 = some (r1, r2, r3)) :
  Calls Try.prog 27 #[.slice A0 l0.length c0, .slice A1 l1.length c1] w fun e w' => ∃ v0_ : Value, e = .returned (.tuple #[v0_, .int .i64 r2, .int .i64 r3]) ∧ Kd.R (Kd.int .i64) 3 w' w.heap.size (fun _ => True) v0_ r1 ∧ Below w.heap.size w w' := by
 have HR0 := Aside0.mk hr0
 have HC0 := Aside0.mk hc0
 clear hr0 hc0
 have HR1 := Aside0.mk hr1
 have HC1 := Aside0.mk hc1
 clear hr1 hc1
 have HB := Aside0.mk (Below.refl w.heap.size w)
 have H : ((plait_of.f k l0).bind fun t233 => (if t233 = 0 then ((plait_of.f k l1).bind fun t234 => (if t234 = 0 then (if (l0.length : Int) = (l1.length : Int) then ((plait_diagram_product.f l0 l1).bind fun bt235 => (some (bt235.1, bt235.2, 0))) else (some (([] : List Int), 0, 2))) else (some (([] : List Int), 0, t234)))) else (some (([] : List Int), 0, t233)))) = some (r1, r2, r3) := h
 clear h
 replace H := Option.bind_eq_some_iff.mp H
 obtain ⟨t233, A30, H⟩ := H
 replace H : (if t233 = 0 then ((plait_of.f k l1).bind fun t234 => (if t234 = 0 then (if (l0.length : Int) = (l1.length : Int) then ((plait_diagram_product.f l0 l1).bind fun bt235 => (some (bt235.1, bt235.2, 0))) else (some (([] : List Int), 0, 2))) else (some (([] : List Int), 0, t234)))) else (some (([] : List Int), 0, t233))) = some (r1, r2, r3) := H
 have A3 := Aside0.mk A30
 clear A30
 by_cases c4 : t233 = 0
 ·rw [if_pos c4] at H
  have c4b0 : (t233 == 0) = true := beq_iff_eq.mpr c4
  have c4b1 : (t233 != 0) = false := bne_eq_false_iff_eq.mpr c4
  clear c4
  replace H := Option.bind_eq_some_iff.mp H
  obtain ⟨t234, A50, H⟩ := H
  replace H : (if t234 = 0 then (if (l0.length : Int) = (l1.length : Int) then ((plait_diagram_product.f l0 l1).bind fun bt235 => (some (bt235.1, bt235.2, 0))) else (some (([] : List Int), 0, 2))) else (some (([] : List Int), 0, t234))) = some (r1, r2, r3) := H
  have A5 := Aside0.mk A50
  clear A50
  by_cases c6 : t234 = 0
  ·rw [if_pos c6] at H
   have c6b0 : (t234 == 0) = true := beq_iff_eq.mpr c6
   have c6b1 : (t234 != 0) = false := bne_eq_false_iff_eq.mpr c6
   clear c6
   by_cases c7 : (l0.length : Int) = (l1.length : Int)
   ·rw [if_pos c7] at H
    have c7b0 : ((l0.length : Int) == (l1.length : Int)) = true := beq_iff_eq.mpr c7
    have c7b1 : ((l0.length : Int) != (l1.length : Int)) = false := bne_eq_false_iff_eq.mpr c7
    have c7b2 : (l0.length == l1.length) = true := by first | simpa using c7 | (simp at c7 ⊢; omega)
    clear c7
    replace H := Option.bind_eq_some_iff.mp H
    obtain ⟨⟨t235, t236⟩, A80, H⟩ := H
    replace H : (some (t235, t236, 0)) = some (r1, r2, r3) := H
    have A8 := Aside0.mk A80
    clear A80
    simp only [Option.some.injEq, Prod.mk.injEq] at H
    obtain ⟨rfl, rfl, rfl⟩ := H
    go_enter Try.func27, Try.ntmps27
    go_wp2_with (first | ((with_reducible refine gate_callee (f := 54) rfl ?_); refine goesL_ (some 14) rfl rfl Try.func54 (by kernel_rfl) rfl #[.slice A0 l0.length c0] rfl (by (try simp only [List.map_toArray, List.map_cons, List.map_nil]); first | done | rfl | (simp only [List.length_drop, List.length_take]; rfl)) ?_; (with_reducible refine (plait_of.calls k _ _ l0 t233 _ ?side1 ?side2 A3.out).mono ?_); (case side1 => repeat (first | exact HR0.out | (with_reducible refine Kd.C_alloc ?_ _) | (with_reducible refine Kd.C_drewN ?_ _) | (with_reducible refine Kd.C_drew ?_))); (case side2 => exact HC0.out); rintro e w9 ⟨rfl, hb⟩; refine ⟨_, rfl, ?_⟩; have n0_ := Aside0.mk (below_step (by repeat (first | (with_reducible first | exact HB.out | apply below_alloc | apply pw_below_drewN | apply below_drew1) | exact HB.out)) hb); clear HB; have HB := n0_; clear n0_; (try clear hb); (try clear hb2); (try clear hk); (try clear hi)) | ((with_reducible refine gate_callee (f := 54) rfl ?_); refine goesL_ (some 22) rfl rfl Try.func54 (by kernel_rfl) rfl #[.slice A1 l1.length c1] rfl (by (try simp only [List.map_toArray, List.map_cons, List.map_nil]); first | done | rfl | (simp only [List.length_drop, List.length_take]; rfl)) ?_; (with_reducible refine (plait_of.calls k _ _ l1 t234 _ ?side1 ?side2 A5.out).mono ?_); (case side1 => repeat (first | exact (Kd.C_below HR1.out HB.out) | (with_reducible refine Kd.C_alloc ?_ _) | (with_reducible refine Kd.C_drewN ?_ _) | (with_reducible refine Kd.C_drew ?_))); (case side2 => exact HC1.out); rintro e w10 ⟨rfl, hb⟩; refine ⟨_, rfl, ?_⟩; have n0_ := Aside0.mk (below_step (by repeat (first | (with_reducible first | exact HB.out | apply below_alloc | apply pw_below_drewN | apply below_drew1) | exact HB.out)) hb); clear HB; have HB := n0_; clear n0_; (try clear hb); (try clear hb2); (try clear hk); (try clear hi)) | ((with_reducible refine gate_callee (f := 66) rfl ?_); refine goesL_ (some 38) rfl rfl Try.func66 (by kernel_rfl) rfl #[.slice A0 l0.length c0, .slice A1 l1.length c1] rfl (by (try simp only [List.map_toArray, List.map_cons, List.map_nil]); first | done | rfl | (simp only [List.length_drop, List.length_take]; rfl)) ?_; (with_reducible refine (plait_diagram_product.calls _ _ l0 _ _ l1 t235 t236 _ ?side1 ?side2 ?side3 ?side4 A8.out).mono ?_); (case side1 => repeat (first | exact (Kd.C_below HR0.out HB.out) | (with_reducible refine Kd.C_alloc ?_ _) | (with_reducible refine Kd.C_drewN ?_ _) | (with_reducible refine Kd.C_drew ?_))); (case side2 => exact HC0.out); (case side3 => repeat (first | exact (Kd.C_below HR1.out HB.out) | (with_reducible refine Kd.C_alloc ?_ _) | (with_reducible refine Kd.C_drewN ?_ _) | (with_reducible refine Kd.C_drew ?_))); (case side4 => exact HC1.out); rintro e w11 ⟨v237, rfl, ho0, hb⟩; refine ⟨_, rfl, ?_⟩; have n0_ := Aside0.mk (Kd.R_lower ho0 (below_size (by repeat (first | (with_reducible first | exact HB.out | apply below_alloc | apply pw_below_drewN | apply below_drew1) | exact HB.out)))); have n1_ := Aside0.mk (below_step (by repeat (first | (with_reducible first | exact HB.out | apply below_alloc | apply pw_below_drewN | apply below_drew1) | exact HB.out)) hb); clear HB; have HO238 := n0_; have HB := n1_; clear n0_ n1_; (try clear hb); (try clear hb2); (try clear hk); (try clear hi); (try clear ho0)))
    go_ret3
    exact ⟨_, by first | rfl | (simp [errW_none, errW_some] <;> rfl) | (simp [*, errW_none, errW_some] <;> rfl), by (with_reducible repeat (first | apply Kd.R_alloc | apply Kd.R_drewN | apply Kd.R_drew)); exact HO238.out, by repeat (first | (with_reducible first | exact HB.out | apply below_alloc | apply pw_below_drewN | apply below_drew1) | exact HB.out)⟩
   ·rw [if_neg c7] at H
    have c7b0 : ((l0.length : Int) == (l1.length : Int)) = false := beq_eq_false_iff_ne.mpr c7
    have c7b1 : ((l0.length : Int) != (l1.length : Int)) = true := bne_iff_ne.mpr c7
    have c7b2 : (l0.length == l1.length) = false := by first | simpa using c7 | (simp at c7 ⊢; omega)
    simp only [Option.some.injEq, Prod.mk.injEq] at H
    obtain ⟨rfl, rfl, rfl⟩ := H
    go_enter Try.func27, Try.ntmps27
    go_wp2_with (first | ((with_reducible refine gate_callee (f := 54) rfl ?_); refine goesL_ (some 14) rfl rfl Try.func54 (by kernel_rfl) rfl #[.slice A0 l0.length c0] rfl (by (try simp only [List.map_toArray, List.map_cons, List.map_nil]); first | done | rfl | (simp only [List.length_drop, List.length_take]; rfl)) ?_; (with_reducible refine (plait_of.calls k _ _ l0 t233 _ ?side1 ?side2 A3.out).mono ?_); (case side1 => repeat (first | exact HR0.out | (with_reducible refine Kd.C_alloc ?_ _) | (with_reducible refine Kd.C_drewN ?_ _) | (with_reducible refine Kd.C_drew ?_))); (case side2 => exact HC0.out); rintro e w12 ⟨rfl, hb⟩; refine ⟨_, rfl, ?_⟩; have n0_ := Aside0.mk (below_step (by repeat (first | (with_reducible first | exact HB.out | apply below_alloc | apply pw_below_drewN | apply below_drew1) | exact HB.out)) hb); clear HB; have HB := n0_; clear n0_; (try clear hb); (try clear hb2); (try clear hk); (try clear hi)) | ((with_reducible refine gate_callee (f := 54) rfl ?_); refine goesL_ (some 22) rfl rfl Try.func54 (by kernel_rfl) rfl #[.slice A1 l1.length c1] rfl (by (try simp only [List.map_toArray, List.map_cons, List.map_nil]); first | done | rfl | (simp only [List.length_drop, List.length_take]; rfl)) ?_; (with_reducible refine (plait_of.calls k _ _ l1 t234 _ ?side1 ?side2 A5.out).mono ?_); (case side1 => repeat (first | exact (Kd.C_below HR1.out HB.out) | (with_reducible refine Kd.C_alloc ?_ _) | (with_reducible refine Kd.C_drewN ?_ _) | (with_reducible refine Kd.C_drew ?_))); (case side2 => exact HC1.out); rintro e w13 ⟨rfl, hb⟩; refine ⟨_, rfl, ?_⟩; have n0_ := Aside0.mk (below_step (by repeat (first | (with_reducible first | exact HB.out | apply below_alloc | apply pw_below_drewN | apply below_drew1) | exact HB.out)) hb); clear HB; have HB := n0_; clear n0_; (try clear hb); (try clear hb2); (try clear hk); (try clear hi)))
    go_ret3
    exact ⟨_, by first | rfl | (simp [errW_none, errW_some] <;> rfl) | (simp [*, errW_none, errW_some] <;> rfl), by first | exact Kd.R_nil _ _ _ _ _ | exact Kd.N_nil _ _ _ _ _ | exact Kd.V_nil _ _ _ _ _ | exact Kd.Q_nil _ _ _ _ _ | exact Kd.S_nil _ _ _ _ _, by repeat (first | (with_reducible first | exact HB.out | apply below_alloc | apply pw_below_drewN | apply below_drew1) | exact HB.out)⟩
  ·rw [if_neg c6] at H
   have c6b0 : (t234 == 0) = false := beq_eq_false_iff_ne.mpr c6
   have c6b1 : (t234 != 0) = true := bne_iff_ne.mpr c6
   simp only [Option.some.injEq, Prod.mk.injEq] at H
   obtain ⟨rfl, rfl, rfl⟩ := H
   go_enter Try.func27, Try.ntmps27
   go_wp2_with (first | ((with_reducible refine gate_callee (f := 54) rfl ?_); refine goesL_ (some 14) rfl rfl Try.func54 (by kernel_rfl) rfl #[.slice A0 l0.length c0] rfl (by (try simp only [List.map_toArray, List.map_cons, List.map_nil]); first | done | rfl | (simp only [List.length_drop, List.length_take]; rfl)) ?_; (with_reducible refine (plait_of.calls k _ _ l0 t233 _ ?side1 ?side2 A3.out).mono ?_); (case side1 => repeat (first | exact HR0.out | (with_reducible refine Kd.C_alloc ?_ _) | (with_reducible refine Kd.C_drewN ?_ _) | (with_reducible refine Kd.C_drew ?_))); (case side2 => exact HC0.out); rintro e w14 ⟨rfl, hb⟩; refine ⟨_, rfl, ?_⟩; have n0_ := Aside0.mk (below_step (by repeat (first | (with_reducible first | exact HB.out | apply below_alloc | apply pw_below_drewN | apply below_drew1) | exact HB.out)) hb); clear HB; have HB := n0_; clear n0_; (try clear hb); (try clear hb2); (try clear hk); (try clear hi)) | ((with_reducible refine gate_callee (f := 54) rfl ?_); refine goesL_ (some 22) rfl rfl Try.func54 (by kernel_rfl) rfl #[.slice A1 l1.length c1] rfl (by (try simp only [List.map_toArray, List.map_cons, List.map_nil]); first | done | rfl | (simp only [List.length_drop, List.length_take]; rfl)) ?_; (with_reducible refine (plait_of.calls k _ _ l1 t234 _ ?side1 ?side2 A5.out).mono ?_); (case side1 => repeat (first | exact (Kd.C_below HR1.out HB.out) | (with_reducible refine Kd.C_alloc ?_ _) | (with_reducible refine Kd.C_drewN ?_ _) | (with_reducible refine Kd.C_drew ?_))); (case side2 => exact HC1.out); rintro e w15 ⟨rfl, hb⟩; refine ⟨_, rfl, ?_⟩; have n0_ := Aside0.mk (below_step (by repeat (first | (with_reducible first | exact HB.out | apply below_alloc | apply pw_below_drewN | apply below_drew1) | exact HB.out)) hb); clear HB; have HB := n0_; clear n0_; (try clear hb); (try clear hb2); (try clear hk); (try clear hi)))
   go_ret3
   exact ⟨_, by first | rfl | (simp [errW_none, errW_some] <;> rfl) | (simp [*, errW_none, errW_some] <;> rfl), by first | exact Kd.R_nil _ _ _ _ _ | exact Kd.N_nil _ _ _ _ _ | exact Kd.V_nil _ _ _ _ _ | exact Kd.Q_nil _ _ _ _ _ | exact Kd.S_nil _ _ _ _ _, by repeat (first | (with_reducible first | exact HB.out | apply below_alloc | apply pw_below_drewN | apply below_drew1) | exact HB.out)⟩
 ·rw [if_neg c4] at H
  have c4b0 : (t233 == 0) = false := beq_eq_false_iff_ne.mpr c4
  have c4b1 : (t233 != 0) = true := bne_iff_ne.mpr c4
  simp only [Option.some.injEq, Prod.mk.injEq] at H
  obtain ⟨rfl, rfl, rfl⟩ := H
  go_enter Try.func27, Try.ntmps27
  go_wp2_with (first | ((with_reducible refine gate_callee (f := 54) rfl ?_); refine goesL_ (some 14) rfl rfl Try.func54 (by kernel_rfl) rfl #[.slice A0 l0.length c0] rfl (by (try simp only [List.map_toArray, List.map_cons, List.map_nil]); first | done | rfl | (simp only [List.length_drop, List.length_take]; rfl)) ?_; (with_reducible refine (plait_of.calls k _ _ l0 t233 _ ?side1 ?side2 A3.out).mono ?_); (case side1 => repeat (first | exact HR0.out | (with_reducible refine Kd.C_alloc ?_ _) | (with_reducible refine Kd.C_drewN ?_ _) | (with_reducible refine Kd.C_drew ?_))); (case side2 => exact HC0.out); rintro e w16 ⟨rfl, hb⟩; refine ⟨_, rfl, ?_⟩; have n0_ := Aside0.mk (below_step (by repeat (first | (with_reducible first | exact HB.out | apply below_alloc | apply pw_below_drewN | apply below_drew1) | exact HB.out)) hb); clear HB; have HB := n0_; clear n0_; (try clear hb); (try clear hb2); (try clear hk); (try clear hi)))
  go_ret3
  exact ⟨_, by first | rfl | (simp [errW_none, errW_some] <;> rfl) | (simp [*, errW_none, errW_some] <;> rfl), by first | exact Kd.R_nil _ _ _ _ _ | exact Kd.N_nil _ _ _ _ _ | exact Kd.V_nil _ _ _ _ _ | exact Kd.Q_nil _ _ _ _ _ | exact Kd.S_nil _ _ _ _ _, by repeat (first | (with_reducible first | exact HB.out | apply below_alloc | apply pw_below_drewN | apply below_drew1) | exact HB.out)⟩
end Go.Proofs.Ytjfkompfkgjdaaa.PC
end
section
namespace Go.Proofs.Ytjfkompfkgjdaaa.PC
open Go.RowKit Go.Proofs.YtjfkompfkgjdaaaW.PrintWords Go.Proofs.YtjfkompfkgjdaaaW.PrintLast Go.Proofs.YtjfkompfkgjdaaaW.PrintMore
attribute [local go_sem] max2_int min2_int max_two min_two max_three min_three max_four min_four   -- for this text's walks alone
set_option linter.unusedVariables false
set_option linter.unusedSimpArgs false
/-! ### plait_Through: function 44 -/
attribute [local go_sem] plait_of.val0
def plait_Through.l0 : Nat → List Int → Int → Int → Int → Option (Int × Int)
 | 0, _, _, _, _ => none
 | k + 1, x4, x6, x17, x18 => if x18 < x17 then (if 0 ≤ x18 then (if x18 < (x4.length : Int) then ((plait_diagram_size.f x4).bind fun t413 => (if (rd x4 x18) ≥ t413 then (plait_Through.l0 k x4 (wrap64 (x6 + 1)) x17 (wrap64 (x18 + 1))) else (plait_Through.l0 k x4 x6 x17 (wrap64 (x18 + 1))))) else (none)) else (none)) else (some (x6, 0))
def plait_Through.f (k : Nat) (l0 : List Int) : Option (Int × Int) := (plait_of.f k l0).bind fun t410 => (if t410 = 0 then ((plait_diagram_size.f l0).bind fun t411 => (plait_Through.l0 k l0 0 t411 0)) else (some (0, t410)))
theorem plait_Through.mono_l : ∀ k, (∀ y0 y1 y2 y3, LeO (plait_Through.l0 k y0 y1 y2 y3) (plait_Through.l0 (k + 1) y0 y1 y2 y3))
 | 0 => fun _ _ _ _ r h => by simp [plait_Through.l0] at h
 | k + 1 => by
  have ih0 := plait_Through.mono_l k
  ·intro y0 y1 y2 y3
   unfold plait_Through.l0
   repeat' first
   | (with_reducible exact ih0 _ _ _ _)
   | (with_reducible exact plait_of.mono _ _)
   | (with_reducible exact LeO.refl _)
   | (with_reducible exact LeO.none _)
   | (with_reducible refine LeO.ite ?_ ?_)
   | (with_reducible refine LeO.bind ?_ (fun _ => ?_))
   | exact ih0 _ _ _ _
   | exact plait_of.mono _ _
   | exact LeO.none _
   | refine LeO.ite ?_ ?_
   | refine LeO.bind ?_ (fun _ => ?_)
theorem plait_Through.mono : ∀ a0 k, LeO (plait_Through.f k a0) (plait_Through.f (k + 1) a0) := by
 intro a0 k
 have ih0 := plait_Through.mono_l k
 unfold plait_Through.f
 repeat' first
   | (with_reducible exact ih0 _ _ _ _)
   | (with_reducible exact plait_of.mono _ _)
   | (with_reducible exact LeO.refl _)
   | (with_reducible exact LeO.none _)
   | (with_reducible refine LeO.ite ?_ ?_)
   | (with_reducible refine LeO.bind ?_ (fun _ => ?_))
   | exact ih0 _ _ _ _
   | exact plait_of.mono _ _
   | exact LeO.none _
   | refine LeO.ite ?_ ?_
   | refine LeO.bind ?_ (fun _ => ?_)
set_option maxHeartbeats 8000000 in
set_option maxRecDepth 100000 in
theorem plait_Through.calls (k : Nat) (A0 : Option Addr) (c0 : Nat) (l0 : List Int) (r1 : Int) (r2 : Int) (w : World) (hr0 : Kd.C (Kd.int .i64) w A0 l0.length l0) (hc0 : l0.length ≤ c0) (h : plait_Through.f k l0 = some (r1, r2)) :
  Calls Try.prog 44 #[.slice A0 l0.length c0] w fun e w' => e = .returned (.tuple #[.int .i64 r1, .int .i64 r2]) ∧ Below w.heap.size w w' := by
 have HR0 := Aside0.mk hr0
 have HC0 := Aside0.mk hc0
 clear hr0 hc0
 have HB := Aside0.mk (Below.refl w.heap.size w)
 have H : ((plait_of.f k l0).bind fun t410 => (if t410 = 0 then ((plait_diagram_size.f l0).bind fun t411 => (plait_Through.l0 k l0 0 t411 0)) else (some (0, t410)))) = some (r1, r2) := h
 clear h
 replace H := Option.bind_eq_some_iff.mp H
 obtain ⟨t410, A20, H⟩ := H
 replace H : (if t410 = 0 then ((plait_diagram_size.f l0).bind fun t411 => (plait_Through.l0 k l0 0 t411 0)) else (some (0, t410))) = some (r1, r2) := H
 have A2 := Aside0.mk A20
 clear A20
 by_cases c3 : t410 = 0
 ·rw [if_pos c3] at H
  have c3b0 : (t410 == 0) = true := beq_iff_eq.mpr c3
  have c3b1 : (t410 != 0) = false := bne_eq_false_iff_eq.mpr c3
  clear c3
  replace H := Option.bind_eq_some_iff.mp H
  obtain ⟨t411, A40, H⟩ := H
  replace H : (plait_Through.l0 k l0 0 t411 0) = some (r1, r2) := H
  have A4 := Aside0.mk A40
  clear A40
  have H' := Aside0.mk H
  clear H
  go_enter Try.func44, Try.ntmps44
  go_wp2_with (first | (go_at_call 54; (with_reducible refine (plait_of.calls k _ _ l0 t410 _ ?side1 ?side2 A2.out).mono ?_); (case side1 => repeat (first | exact HR0.out | (with_reducible refine Kd.C_alloc ?_ _) | (with_reducible refine Kd.C_drewN ?_ _) | (with_reducible refine Kd.C_drew ?_))); (case side2 => exact HC0.out); rintro e w5 ⟨rfl, hb⟩; have n0_ := Aside0.mk (below_step (by repeat (first | (with_reducible first | exact HB.out | apply below_alloc | apply pw_below_drewN | apply below_drew1) | exact HB.out)) hb); clear HB; have HB := n0_; clear n0_; (try clear hb); (try clear hb2); (try clear hk); (try clear hi)) | (go_at_call 72; (with_reducible refine (plait_diagram_size.calls _ _ l0 t411 _ ?side1 ?side2 A4.out).mono ?_); (case side1 => repeat (first | exact (Kd.C_below HR0.out HB.out) | (with_reducible refine Kd.C_alloc ?_ _) | (with_reducible refine Kd.C_drewN ?_ _) | (with_reducible refine Kd.C_drew ?_))); (case side2 => exact HC0.out); rintro e w' ⟨rfl, ⟨nd, rfl⟩⟩; (try first | exact ⟨rfl, _, World.drewN_drewN _ _ _⟩ | exact ⟨rfl, _, Eq.trans (World.drewN_drewN _ _ _) (congrArg (World.drewN _) (Nat.add_assoc _ _ _))⟩)))
  repeat (go_quiet (first | (go_at_call 54; (with_reducible refine (plait_of.calls k _ _ l0 t410 _ ?side1 ?side2 A2.out).mono ?_); (case side1 => repeat (first | exact HR0.out | (with_reducible refine Kd.C_alloc ?_ _) | (with_reducible refine Kd.C_drewN ?_ _) | (with_reducible refine Kd.C_drew ?_))); (case side2 => exact HC0.out); rintro e w5 ⟨rfl, hb⟩; have n0_ := Aside0.mk (below_step (by repeat (first | (with_reducible first | exact HB.out | apply below_alloc | apply pw_below_drewN | apply below_drew1) | exact HB.out)) hb); clear HB; have HB := n0_; clear n0_; (try clear hb); (try clear hb2); (try clear hk); (try clear hi)) | (go_at_call 72; (with_reducible refine (plait_diagram_size.calls _ _ l0 t411 _ ?side1 ?side2 A4.out).mono ?_); (case side1 => repeat (first | exact (Kd.C_below HR0.out HB.out) | (with_reducible refine Kd.C_alloc ?_ _) | (with_reducible refine Kd.C_drewN ?_ _) | (with_reducible refine Kd.C_drew ?_))); (case side2 => exact HC0.out); rintro e w' ⟨rfl, ⟨nd, rfl⟩⟩; (try first | exact ⟨rfl, _, World.drewN_drewN _ _ _⟩ | exact ⟨rfl, _, Eq.trans (World.drewN_drewN _ _ _) (congrArg (World.drewN _) (Nat.add_assoc _ _ _))⟩))); try go_wp2_with (first | (go_at_call 54; (with_reducible refine (plait_of.calls k _ _ l0 t410 _ ?side1 ?side2 A2.out).mono ?_); (case side1 => repeat (first | exact HR0.out | (with_reducible refine Kd.C_alloc ?_ _) | (with_reducible refine Kd.C_drewN ?_ _) | (with_reducible refine Kd.C_drew ?_))); (case side2 => exact HC0.out); rintro e w5 ⟨rfl, hb⟩; have n0_ := Aside0.mk (below_step (by repeat (first | (with_reducible first | exact HB.out | apply below_alloc | apply pw_below_drewN | apply below_drew1) | exact HB.out)) hb); clear HB; have HB := n0_; clear n0_; (try clear hb); (try clear hb2); (try clear hk); (try clear hi)) | (go_at_call 72; (with_reducible refine (plait_diagram_size.calls _ _ l0 t411 _ ?side1 ?side2 A4.out).mono ?_); (case side1 => repeat (first | exact (Kd.C_below HR0.out HB.out) | (with_reducible refine Kd.C_alloc ?_ _) | (with_reducible refine Kd.C_drewN ?_ _) | (with_reducible refine Kd.C_drew ?_))); (case side2 => exact HC0.out); rintro e w' ⟨rfl, ⟨nd, rfl⟩⟩; (try first | exact ⟨rfl, _, World.drewN_drewN _ _ _⟩ | exact ⟨rfl, _, Eq.trans (World.drewN_drewN _ _ _) (congrArg (World.drewN _) (Nat.add_assoc _ _ _))⟩))))
  go_loopg [6, 18] k (fun kq v6 v18 w' => ∃ (x6_1 : Int) (x18_1 : Int), v6 = .int .i64 x6_1 ∧ v18 = .int .i64 x18_1 ∧ Aside0 (plait_Through.l0 kq l0 x6_1 t411 x18_1 = some (r1, r2)) ∧ Aside0 (kq ≤ k) ∧ Aside0 (Below w.heap.size w w'))
  case atStart => exact ⟨(0), (0), (by first | rfl | (simp; done) | (simp [*]; done)), (by first | rfl | (simp; done) | (simp [*]; done)), H', ⟨Nat.le_refl _⟩, ⟨by repeat (first | (with_reducible first | exact HB.out | apply below_alloc | apply pw_below_drewN | apply below_drew1) | exact HB.out)⟩⟩
  case round =>
   clear H'
   try clear p2
   try clear c3
   try clear c3b0
   try clear c3b1
   try clear c4
   obtain ⟨x6_1, x18_1, rfl, rfl, HA, HK1, HB⟩ := hrel
   cases gk with
   | zero => exact absurd HA.out (by simp [plait_Through.l0])
   | succ k1 =>
    have H := HA.out
    clear HA
    simp only [plait_Through.l0] at H
    by_cases c6 : x18_1 < t411
    ·rw [if_pos c6] at H
     have c6b0 : decide (x18_1 < t411) = true := decide_eq_true c6
     clear c6
     by_cases c7 : 0 ≤ x18_1
     ·rw [if_pos c7] at H
      have c7b0 : decide (0 ≤ x18_1) = true := decide_eq_true c7
      clear c7
      by_cases c8 : x18_1 < (l0.length : Int)
      ·rw [if_pos c8] at H
       have c8b0 : decide (x18_1 < (l0.length : Int)) = true := decide_eq_true c8
       clear c8
       replace H := Option.bind_eq_some_iff.mp H
       obtain ⟨t413, A90, H⟩ := H
       replace H : (if (rd l0 x18_1) ≥ t413 then (plait_Through.l0 k1 l0 (wrap64 (x6_1 + 1)) t411 (wrap64 (x18_1 + 1))) else (plait_Through.l0 k1 l0 x6_1 t411 (wrap64 (x18_1 + 1)))) = some (r1, r2) := H
       have A9 := Aside0.mk A90
       clear A90
       by_cases c10 : (rd l0 x18_1) ≥ t413
       ·rw [if_pos c10] at H
        have c10b0 : decide (t413 ≤ (rd l0 x18_1)) = true := decide_eq_true c10
        clear c10
        have H' := Aside0.mk H
        clear H
        have p412 : 0 ≤ (x18_1 : Int) := of_decide_eq_true (by first | (with_reducible assumption) | assumption)
        have q412 : x18_1 < (l0.length : Int) := of_decide_eq_true (by first | (with_reducible assumption) | assumption)
        obtain ⟨ad412, e412, hx412_0⟩ := Kd.at_int HR0.out x18_1 p412 q412
        cases e412
        replace hx412_0 := (HB.out.cell (World.block_lt_of_cell? w _ hx412_0)).trans hx412_0
        replace p412 := eq_true p412
        replace q412 := eq_true q412
        go_wp2_with (first | (go_at_call 72; (with_reducible refine (plait_diagram_size.calls _ _ l0 t413 _ ?side1 ?side2 A9.out).mono ?_); (case side1 => repeat (first | exact (Kd.C_below HR0.out HB.out) | (with_reducible refine Kd.C_alloc ?_ _) | (with_reducible refine Kd.C_drewN ?_ _) | (with_reducible refine Kd.C_drew ?_))); (case side2 => exact HC0.out); rintro e w' ⟨rfl, ⟨nd, rfl⟩⟩; (try first | exact ⟨rfl, _, World.drewN_drewN _ _ _⟩ | exact ⟨rfl, _, Eq.trans (World.drewN_drewN _ _ _) (congrArg (World.drewN _) (Nat.add_assoc _ _ _))⟩)))
        repeat (go_quiet (first | (go_at_call 72; (with_reducible refine (plait_diagram_size.calls _ _ l0 t413 _ ?side1 ?side2 A9.out).mono ?_); (case side1 => repeat (first | exact (Kd.C_below HR0.out HB.out) | (with_reducible refine Kd.C_alloc ?_ _) | (with_reducible refine Kd.C_drewN ?_ _) | (with_reducible refine Kd.C_drew ?_))); (case side2 => exact HC0.out); rintro e w' ⟨rfl, ⟨nd, rfl⟩⟩; (try first | exact ⟨rfl, _, World.drewN_drewN _ _ _⟩ | exact ⟨rfl, _, Eq.trans (World.drewN_drewN _ _ _) (congrArg (World.drewN _) (Nat.add_assoc _ _ _))⟩))); try go_wp2_with (first | (go_at_call 72; (with_reducible refine (plait_diagram_size.calls _ _ l0 t413 _ ?side1 ?side2 A9.out).mono ?_); (case side1 => repeat (first | exact (Kd.C_below HR0.out HB.out) | (with_reducible refine Kd.C_alloc ?_ _) | (with_reducible refine Kd.C_drewN ?_ _) | (with_reducible refine Kd.C_drew ?_))); (case side2 => exact HC0.out); rintro e w' ⟨rfl, ⟨nd, rfl⟩⟩; (try first | exact ⟨rfl, _, World.drewN_drewN _ _ _⟩ | exact ⟨rfl, _, Eq.trans (World.drewN_drewN _ _ _) (congrArg (World.drewN _) (Nat.add_assoc _ _ _))⟩))))
        go_roundg k1
        case measure => have := HK1.out; omega
        case rel => exact ⟨(wrap64 (x6_1 + 1)), (wrap64 (x18_1 + 1)), (by first | rfl | (simp; done) | (simp [*]; done)), (by first | rfl | (simp; done) | (simp [*]; done)), H', ⟨by have := HK1.out; omega⟩, ⟨by repeat (first | (with_reducible first | exact HB.out | apply below_alloc | apply pw_below_drewN | apply below_drew1) | exact HB.out)⟩⟩
       ·rw [if_neg c10] at H
        have c10b0 : decide (t413 ≤ (rd l0 x18_1)) = false := decide_eq_false c10
        clear c10
        have H' := Aside0.mk H
        clear H
        have p412 : 0 ≤ (x18_1 : Int) := of_decide_eq_true (by first | (with_reducible assumption) | assumption)
        have q412 : x18_1 < (l0.length : Int) := of_decide_eq_true (by first | (with_reducible assumption) | assumption)
        obtain ⟨ad412, e412, hx412_0⟩ := Kd.at_int HR0.out x18_1 p412 q412
        cases e412
        replace hx412_0 := (HB.out.cell (World.block_lt_of_cell? w _ hx412_0)).trans hx412_0
        replace p412 := eq_true p412
        replace q412 := eq_true q412
        go_wp2_with (first | (go_at_call 72; (with_reducible refine (plait_diagram_size.calls _ _ l0 t413 _ ?side1 ?side2 A9.out).mono ?_); (case side1 => repeat (first | exact (Kd.C_below HR0.out HB.out) | (with_reducible refine Kd.C_alloc ?_ _) | (with_reducible refine Kd.C_drewN ?_ _) | (with_reducible refine Kd.C_drew ?_))); (case side2 => exact HC0.out); rintro e w' ⟨rfl, ⟨nd, rfl⟩⟩; (try first | exact ⟨rfl, _, World.drewN_drewN _ _ _⟩ | exact ⟨rfl, _, Eq.trans (World.drewN_drewN _ _ _) (congrArg (World.drewN _) (Nat.add_assoc _ _ _))⟩)))
        repeat (go_quiet (first | (go_at_call 72; (with_reducible refine (plait_diagram_size.calls _ _ l0 t413 _ ?side1 ?side2 A9.out).mono ?_); (case side1 => repeat (first | exact (Kd.C_below HR0.out HB.out) | (with_reducible refine Kd.C_alloc ?_ _) | (with_reducible refine Kd.C_drewN ?_ _) | (with_reducible refine Kd.C_drew ?_))); (case side2 => exact HC0.out); rintro e w' ⟨rfl, ⟨nd, rfl⟩⟩; (try first | exact ⟨rfl, _, World.drewN_drewN _ _ _⟩ | exact ⟨rfl, _, Eq.trans (World.drewN_drewN _ _ _) (congrArg (World.drewN _) (Nat.add_assoc _ _ _))⟩))); try go_wp2_with (first | (go_at_call 72; (with_reducible refine (plait_diagram_size.calls _ _ l0 t413 _ ?side1 ?side2 A9.out).mono ?_); (case side1 => repeat (first | exact (Kd.C_below HR0.out HB.out) | (with_reducible refine Kd.C_alloc ?_ _) | (with_reducible refine Kd.C_drewN ?_ _) | (with_reducible refine Kd.C_drew ?_))); (case side2 => exact HC0.out); rintro e w' ⟨rfl, ⟨nd, rfl⟩⟩; (try first | exact ⟨rfl, _, World.drewN_drewN _ _ _⟩ | exact ⟨rfl, _, Eq.trans (World.drewN_drewN _ _ _) (congrArg (World.drewN _) (Nat.add_assoc _ _ _))⟩))))
        go_roundg k1
        case measure => have := HK1.out; omega
        case rel => exact ⟨(x6_1), (wrap64 (x18_1 + 1)), (by first | rfl | (simp; done) | (simp [*]; done)), (by first | rfl | (simp; done) | (simp [*]; done)), H', ⟨by have := HK1.out; omega⟩, ⟨by repeat (first | (with_reducible first | exact HB.out | apply below_alloc | apply pw_below_drewN | apply below_drew1) | exact HB.out)⟩⟩
      ·rw [if_neg c8] at H
       exact absurd H (by simp)
     ·rw [if_neg c7] at H
      exact absurd H (by simp)
    ·rw [if_neg c6] at H
     have c6b0 : decide (x18_1 < t411) = false := decide_eq_false c6
     clear c6
     simp only [Option.some.injEq, Prod.mk.injEq] at H
     obtain ⟨rfl, rfl⟩ := H
     go_wp2
     repeat (go_quiet (fail); try go_wp2)
     go_ret2
     exact ⟨by first | rfl | (simp [errW_none, errW_some] <;> rfl) | (simp [*, errW_none, errW_some] <;> rfl), by repeat (first | (with_reducible first | exact HB.out | apply below_alloc | apply pw_below_drewN | apply below_drew1) | exact HB.out)⟩
 ·rw [if_neg c3] at H
  have c3b0 : (t410 == 0) = false := beq_eq_false_iff_ne.mpr c3
  have c3b1 : (t410 != 0) = true := bne_iff_ne.mpr c3
  simp only [Option.some.injEq, Prod.mk.injEq] at H
  obtain ⟨rfl, rfl⟩ := H
  go_enter Try.func44, Try.ntmps44
  go_wp2_with (first | (go_at_call 54; (with_reducible refine (plait_of.calls k _ _ l0 t410 _ ?side1 ?side2 A2.out).mono ?_); (case side1 => repeat (first | exact HR0.out | (with_reducible refine Kd.C_alloc ?_ _) | (with_reducible refine Kd.C_drewN ?_ _) | (with_reducible refine Kd.C_drew ?_))); (case side2 => exact HC0.out); rintro e w11 ⟨rfl, hb⟩; have n0_ := Aside0.mk (below_step (by repeat (first | (with_reducible first | exact HB.out | apply below_alloc | apply pw_below_drewN | apply below_drew1) | exact HB.out)) hb); clear HB; have HB := n0_; clear n0_; (try clear hb); (try clear hb2); (try clear hk); (try clear hi)))
  repeat (go_quiet (first | (go_at_call 54; (with_reducible refine (plait_of.calls k _ _ l0 t410 _ ?side1 ?side2 A2.out).mono ?_); (case side1 => repeat (first | exact HR0.out | (with_reducible refine Kd.C_alloc ?_ _) | (with_reducible refine Kd.C_drewN ?_ _) | (with_reducible refine Kd.C_drew ?_))); (case side2 => exact HC0.out); rintro e w11 ⟨rfl, hb⟩; have n0_ := Aside0.mk (below_step (by repeat (first | (with_reducible first | exact HB.out | apply below_alloc | apply pw_below_drewN | apply below_drew1) | exact HB.out)) hb); clear HB; have HB := n0_; clear n0_; (try clear hb); (try clear hb2); (try clear hk); (try clear hi))); try go_wp2_with (first | (go_at_call 54; (with_reducible refine (plait_of.calls k _ _ l0 t410 _ ?side1 ?side2 A2.out).mono ?_); (case side1 => repeat (first | exact HR0.out | (with_reducible refine Kd.C_alloc ?_ _) | (with_reducible refine Kd.C_drewN ?_ _) | (with_reducible refine Kd.C_drew ?_))); (case side2 => exact HC0.out); rintro e w11 ⟨rfl, hb⟩; have n0_ := Aside0.mk (below_step (by repeat (first | (with_reducible first | exact HB.out | apply below_alloc | apply pw_below_drewN | apply below_drew1) | exact HB.out)) hb); clear HB; have HB := n0_; clear n0_; (try clear hb); (try clear hb2); (try clear hk); (try clear hi))))
  go_ret2
  exact ⟨by first | rfl | (simp [errW_none, errW_some] <;> rfl) | (simp [*, errW_none, errW_some] <;> rfl), by repeat (first | (with_reducible first | exact HB.out | apply below_alloc | apply pw_below_drewN | apply below_drew1) | exact HB.out)⟩
end Go.Proofs.Ytjfkompfkgjdaaa.PC
end
section
namespace Go.Proofs.Ytjfkompfkgjdaaa.PC
open Go.RowKit Go.Proofs.YtjfkompfkgjdaaaW.PrintWords Go.Proofs.YtjfkompfkgjdaaaW.PrintLast Go.Proofs.YtjfkompfkgjdaaaW.PrintMore
attribute [local go_sem] max2_int min2_int max_two min_two max_three min_three max_four min_four   -- for this text's walks alone
set_option linter.unusedVariables false
set_option linter.unusedSimpArgs false
/-! ### pomaderef07_border: function 53 -/
def pomaderef07_border.f (a0 : Int) (a1 : Int) : Option (Int) := if a1 < a0 then (some a1) else (some (wrap64 ((wrap64 ((wrap64 (3 * a0)) - 1)) - a1)))
set_option maxHeartbeats 8000000 in
set_option maxRecDepth 100000 in
theorem pomaderef07_border.calls (a0 : Int) (a1 : Int) (r : Int) (w : World) (h : pomaderef07_border.f a0 a1 = some r) :
  Calls Try.prog 53 #[.int .i64 a0, .int .i64 a1] w fun e w' => e = .returned (.int .i64 r) ∧ Drawn0 w w' := by
 have H : (if a1 < a0 then (some a1) else (some (wrap64 ((wrap64 ((wrap64 (3 * a0)) - 1)) - a1)))) = some r := h
 clear h
 by_cases c3 : a1 < a0
 ·rw [if_pos c3] at H
  have c3b0 : decide (a1 < a0) = true := decide_eq_true c3
  clear c3
  obtain rfl := Option.some.inj H
  go_enter Try.func53, Try.ntmps53
  go_wp2
  go_ret
  exact ⟨by first | rfl | (simp; done) | (simp [*]; done), by repeat (first | exact Drawn0.refl _ | apply Drawn0.step)⟩
 ·rw [if_neg c3] at H
  have c3b0 : decide (a1 < a0) = false := decide_eq_false c3
  clear c3
  obtain rfl := Option.some.inj H
  go_enter Try.func53, Try.ntmps53
  go_wp2
  go_ret
  exact ⟨by first | rfl | (simp; done) | (simp [*]; done), by repeat (first | exact Drawn0.refl _ | apply Drawn0.step)⟩
/-! ### pomaderef07_Diagram: function 19 -/
mutual
def pomaderef07_Diagram.j0 : Nat → List Int → Int → Bool → Option (Int)
 | 0, _, _, _ => none
 | k + 1, x0, x3, x24 => if x24 = true then (some 2) else (pomaderef07_Diagram.l0 k x0 x3 0)
def pomaderef07_Diagram.l0 : Nat → List Int → Int → Int → Option (Int)
 | 0, _, _, _ => none
 | k + 1, x0, x3, x4 => if x4 < (x0.length : Int) then (if 0 ≤ x4 then (if (rd x0 x4) < 0 then (some 2) else (if (rd x0 x4) ≥ (x0.length : Int) then (some 2) else (if (rd x0 x4) = x4 then (some 2) else (if 0 ≤ (rd x0 x4) then (if (rd x0 x4) < (x0.length : Int) then (if (rd x0 (rd x0 x4)) = x4 then (pomaderef07_Diagram.l0 k x0 x3 (wrap64 (x4 + 1))) else (some 2)) else (none)) else (none))))) else (none)) else (pomaderef07_Diagram.l1 k x0 x3 0)
def pomaderef07_Diagram.l1 : Nat → List Int → Int → Int → Option (Int)
 | 0, _, _, _ => none
 | k + 1, x0, x3, x5 => if x5 < (x0.length : Int) then (pomaderef07_Diagram.l2 k x0 x3 x5 0) else (some 0)
def pomaderef07_Diagram.l2 : Nat → List Int → Int → Int → Int → Option (Int)
 | 0, _, _, _, _ => none
 | k + 1, x0, x3, x5, x6 => if x6 < (x0.length : Int) then ((pomaderef07_border.f x3 x5).bind fun t269 => (if 0 ≤ x5 then (if x5 < (x0.length : Int) then ((pomaderef07_border.f x3 (rd x0 x5)).bind fun t271 => ((pomaderef07_border.f x3 x6).bind fun t272 => (if 0 ≤ x6 then ((pomaderef07_border.f x3 (rd x0 x6)).bind fun t274 => (if t269 < t272 then (if t272 < t271 then (if t271 < t274 then (some 2) else (pomaderef07_Diagram.l2 k x0 x3 x5 (wrap64 (x6 + 1)))) else (pomaderef07_Diagram.l2 k x0 x3 x5 (wrap64 (x6 + 1)))) else (pomaderef07_Diagram.l2 k x0 x3 x5 (wrap64 (x6 + 1))))) else (none)))) else (none)) else (none))) else (pomaderef07_Diagram.l1 k x0 x3 (wrap64 (x5 + 1)))
end
def pomaderef07_Diagram.f (k : Nat) (l0 : List Int) : Option (Int) := if (l0.length : Int) > 20 then (some 3) else (if (wrap64 ((l0.length : Int) / 2)) < 1 then (pomaderef07_Diagram.j0 k l0 (wrap64 ((l0.length : Int) / 2)) true) else (pomaderef07_Diagram.j0 k l0 (wrap64 ((l0.length : Int) / 2)) (((l0.length : Int) % 2) == 1)))
theorem pomaderef07_Diagram.mono_l : ∀ k, (∀ y0 y1 y2, LeO (pomaderef07_Diagram.j0 k y0 y1 y2) (pomaderef07_Diagram.j0 (k + 1) y0 y1 y2)) ∧ (∀ y0 y1 y2, LeO (pomaderef07_Diagram.l0 k y0 y1 y2) (pomaderef07_Diagram.l0 (k + 1) y0 y1 y2)) ∧ (∀ y0 y1 y2, LeO (pomaderef07_Diagram.l1 k y0 y1 y2) (pomaderef07_Diagram.l1 (k + 1) y0 y1 y2)) ∧ (∀ y0 y1 y2 y3, LeO (pomaderef07_Diagram.l2 k y0 y1 y2 y3) (pomaderef07_Diagram.l2 (k + 1) y0 y1 y2 y3))
 | 0 => ⟨fun _ _ _ r h => by simp [pomaderef07_Diagram.j0] at h, fun _ _ _ r h => by simp [pomaderef07_Diagram.l0] at h, fun _ _ _ r h => by simp [pomaderef07_Diagram.l1] at h, fun _ _ _ _ r h => by simp [pomaderef07_Diagram.l2] at h⟩
 | k + 1 => by
  obtain ⟨ih0, ih1, ih2, ih3⟩ := pomaderef07_Diagram.mono_l k
  refine ⟨?_, ?_, ?_, ?_⟩
  ·intro y0 y1 y2
   unfold pomaderef07_Diagram.j0
   repeat' first
   | (with_reducible exact ih0 _ _ _)
   | (with_reducible exact ih1 _ _ _)
   | (with_reducible exact ih2 _ _ _)
   | (with_reducible exact ih3 _ _ _ _)
   | (with_reducible exact LeO.refl _)
   | (with_reducible exact LeO.none _)
   | (with_reducible refine LeO.ite ?_ ?_)
   | (with_reducible refine LeO.bind ?_ (fun _ => ?_))
   | exact ih0 _ _ _
   | exact ih1 _ _ _
   | exact ih2 _ _ _
   | exact ih3 _ _ _ _
   | exact LeO.none _
   | refine LeO.ite ?_ ?_
   | refine LeO.bind ?_ (fun _ => ?_)
  ·intro y0 y1 y2
   unfold pomaderef07_Diagram.l0
   repeat' first
   | (with_reducible exact ih0 _ _ _)
   | (with_reducible exact ih1 _ _ _)
   | (with_reducible exact ih2 _ _ _)
   | (with_reducible exact ih3 _ _ _ _)
   | (with_reducible exact LeO.refl _)
   | (with_reducible exact LeO.none _)
   | (with_reducible refine LeO.ite ?_ ?_)
   | (with_reducible refine LeO.bind ?_ (fun _ => ?_))
   | exact ih0 _ _ _
   | exact ih1 _ _ _
   | exact ih2 _ _ _
   | exact ih3 _ _ _ _
   | exact LeO.none _
   | refine LeO.ite ?_ ?_
   | refine LeO.bind ?_ (fun _ => ?_)
  ·intro y0 y1 y2
   unfold pomaderef07_Diagram.l1
   repeat' first
   | (with_reducible exact ih0 _ _ _)
   | (with_reducible exact ih1 _ _ _)
   | (with_reducible exact ih2 _ _ _)
   | (with_reducible exact ih3 _ _ _ _)
   | (with_reducible exact LeO.refl _)
   | (with_reducible exact LeO.none _)
   | (with_reducible refine LeO.ite ?_ ?_)
   | (with_reducible refine LeO.bind ?_ (fun _ => ?_))
   | exact ih0 _ _ _
   | exact ih1 _ _ _
   | exact ih2 _ _ _
   | exact ih3 _ _ _ _
   | exact LeO.none _
   | refine LeO.ite ?_ ?_
   | refine LeO.bind ?_ (fun _ => ?_)
  ·intro y0 y1 y2 y3
   unfold pomaderef07_Diagram.l2
   repeat' first
   | (with_reducible exact ih0 _ _ _)
   | (with_reducible exact ih1 _ _ _)
   | (with_reducible exact ih2 _ _ _)
   | (with_reducible exact ih3 _ _ _ _)
   | (with_reducible exact LeO.refl _)
   | (with_reducible exact LeO.none _)
   | (with_reducible refine LeO.ite ?_ ?_)
   | (with_reducible refine LeO.bind ?_ (fun _ => ?_))
   | exact ih0 _ _ _
   | exact ih1 _ _ _
   | exact ih2 _ _ _
   | exact ih3 _ _ _ _
   | exact LeO.none _
   | refine LeO.ite ?_ ?_
   | refine LeO.bind ?_ (fun _ => ?_)
theorem pomaderef07_Diagram.mono : ∀ a0 k, LeO (pomaderef07_Diagram.f k a0) (pomaderef07_Diagram.f (k + 1) a0) := by
 intro a0 k
 obtain ⟨ih0, ih1, ih2, ih3⟩ := pomaderef07_Diagram.mono_l k
 unfold pomaderef07_Diagram.f
 repeat' first
   | (with_reducible exact ih0 _ _ _)
   | (with_reducible exact ih1 _ _ _)
   | (with_reducible exact ih2 _ _ _)
   | (with_reducible exact ih3 _ _ _ _)
   | (with_reducible exact LeO.refl _)
   | (with_reducible exact LeO.none _)
   | (with_reducible refine LeO.ite ?_ ?_)
   | (with_reducible refine LeO.bind ?_ (fun _ => ?_))
   | exact ih0 _ _ _
   | exact ih1 _ _ _
   | exact ih2 _ _ _
   | exact ih3 _ _ _ _
   | exact LeO.none _
   | refine LeO.ite ?_ ?_
   | refine LeO.bind ?_ (fun _ => ?_)
set_option maxHeartbeats 8000000 in
set_option maxRecDepth 100000 in
theorem pomaderef07_Diagram.calls (k : Nat) (A0 : Option Addr) (c0 : Nat) (l0 : List Int) (r : Int) (w : World) (hr0 : Kd.C (Kd.int .i64) w A0 l0.length l0) (hc0 : l0.length ≤ c0) (h : pomaderef07_Diagram.f k l0 = some r) :
  Calls Try.prog 19 #[.slice A0 l0.length c0] w fun e w' => e = .returned (.int .i64 r) ∧ Drawn0 w w' := by
 have HR0 := Aside0.mk hr0
 have HC0 := Aside0.mk hc0
 clear hr0 hc0
 have H : (if (l0.length : Int) > 20 then (some 3) else (if (wrap64 ((l0.length : Int) / 2)) < 1 then (pomaderef07_Diagram.j0 k l0 (wrap64 ((l0.length : Int) / 2)) true) else (pomaderef07_Diagram.j0 k l0 (wrap64 ((l0.length : Int) / 2)) (((l0.length : Int) % 2) == 1)))) = some r := h
 clear h
 by_cases c2 : (l0.length : Int) > 20
 ·rw [if_pos c2] at H
  have c2b0 : decide (20 < (l0.length : Int)) = true := decide_eq_true c2
  have c2b1 : decide (20 < l0.length) = true := decide_eq_true (by omega)
  clear c2
  obtain rfl := Option.some.inj H
  go_enter Try.func19, Try.ntmps19
  go_wp2
  repeat (go_quiet (fail); try go_wp2)
  go_ret
  exact ⟨by first | rfl | (simp; done) | (simp [*]; done), by repeat (first | exact Drawn0.refl _ | apply Drawn0.step)⟩
 ·rw [if_neg c2] at H
  have c2b0 : decide (20 < (l0.length : Int)) = false := decide_eq_false c2
  have c2b1 : decide (20 < l0.length) = false := decide_eq_false (by omega)
  clear c2
  have HC3 := Aside0.mk H
  clear H
  go_enter Try.func19, Try.ntmps19
  go_upto_region 4 with (fail)
  repeat (go_quiet (fail); go_upto_region 4 with (fail))
  go_cut [24] (fun v24 wc => ∃ (kq : Nat) (x24_2 : Bool), v24 = .bool x24_2 ∧ Aside0 (pomaderef07_Diagram.j0 kq l0 (wrap64 ((l0.length : Int) / 2)) x24_2 = some r) ∧ Aside0 (kq ≤ k) ∧ Drawn0 w wc)
  case first =>
   have H := HC3.out
   clear HC3
   by_cases c4 : (wrap64 ((l0.length : Int) / 2)) < 1
   ·rw [if_pos c4] at H
    have c4b0 : decide ((wrap64 ((l0.length : Int) / 2)) < 1) = true := decide_eq_true c4
    clear c4
    (first | rw [c4b0] | (simp only [i64_w, i32_w]; rw [c4b0]) | skip)
    have H' := Aside0.mk H
    clear H
    go_wp2
    repeat (go_quiet (fail); try go_wp2)
    go_meet
    case rel => exact ⟨_, (true), (by first | rfl | (simp; done) | (simp [*]; done)), H', ⟨by first | omega | exact Nat.le_refl _⟩, by repeat (first | exact Drawn0.refl _ | apply Drawn0.step)⟩
   ·rw [if_neg c4] at H
    have c4b0 : decide ((wrap64 ((l0.length : Int) / 2)) < 1) = false := decide_eq_false c4
    clear c4
    (first | rw [c4b0] | (simp only [i64_w, i32_w]; rw [c4b0]) | skip)
    have H' := Aside0.mk H
    clear H
    go_wp2
    repeat (go_quiet (fail); try go_wp2)
    go_meet
    case rel => exact ⟨_, ((((l0.length : Int) % 2) == 1)), (by first | rfl | (simp; done) | (simp [*]; done)), H', ⟨by first | omega | exact Nat.le_refl _⟩, by repeat (first | exact Drawn0.refl _ | apply Drawn0.step)⟩
  case rest =>
   clear HC3
   try clear c1
   try clear c2
   try clear c2b0
   try clear c2b1
   try clear p2
   try clear c4
   try clear c4b0
   obtain ⟨kq, x24_2, rfl, HA, HJ2, ⟨mc2, rfl⟩⟩ := hcut
   cases kq with
   | zero => exact absurd HA.out (by simp [pomaderef07_Diagram.j0])
   | succ kj2 =>
    have H := HA.out
    clear HA
    simp only [pomaderef07_Diagram.j0] at H
    by_cases c5 : x24_2 = true
    ·subst c5
     have H1 : (some 2) = some r := by rw [if_pos rfl] at H; exact H
     clear H
     have H := H1
     clear H1
     obtain rfl := Option.some.inj H
     go_wp2
     repeat (go_quiet (fail); try go_wp2)
     go_ret
     exact ⟨by first | rfl | (simp; done) | (simp [*]; done), by repeat (first | exact Drawn0.refl _ | apply Drawn0.step)⟩
    ·replace c5 := Bool.eq_false_iff.mpr c5
     subst c5
     have H1 : (pomaderef07_Diagram.l0 kj2 l0 (wrap64 ((l0.length : Int) / 2)) 0) = some r := by rw [if_neg (show ¬ (false = true) by decide)] at H; exact H
     clear H
     have H := H1
     clear H1
     have H' := Aside0.mk H
     clear H
     go_wp2
     repeat (go_quiet (fail); try go_wp2)
     go_loopg [4] kj2 (fun kq v4 w' => ∃ (x4_2 : Int), v4 = .int .i64 x4_2 ∧ Aside0 (pomaderef07_Diagram.l0 kq l0 (wrap64 ((l0.length : Int) / 2)) x4_2 = some r) ∧ Aside0 (kq ≤ kj2) ∧ Drawn0 w w')
     case atStart => exact ⟨(0), (by first | rfl | (simp; done) | (simp [*]; done)), H', ⟨Nat.le_refl _⟩, by repeat (first | exact Drawn0.refl _ | apply Drawn0.step)⟩
     case round =>
      clear H'
      try clear c1
      try clear c2
      try clear c2b0
      try clear c2b1
      try clear p2
      try clear c4
      try clear c4b0
      try clear c5
      try clear p2
      obtain ⟨x4_2, rfl, HA, HK2, ⟨m2, rfl⟩⟩ := hrel
      cases gk with
      | zero => exact absurd HA.out (by simp [pomaderef07_Diagram.l0])
      | succ k2 =>
       have H := HA.out
       clear HA
       simp only [pomaderef07_Diagram.l0] at H
       by_cases c6 : x4_2 < (l0.length : Int)
       ·rw [if_pos c6] at H
        have c6b0 : decide (x4_2 < (l0.length : Int)) = true := decide_eq_true c6
        clear c6
        by_cases c7 : 0 ≤ x4_2
        ·rw [if_pos c7] at H
         have c7b0 : decide (0 ≤ x4_2) = true := decide_eq_true c7
         clear c7
         by_cases c8 : (rd l0 x4_2) < 0
         ·rw [if_pos c8] at H
          have c8b0 : decide ((rd l0 x4_2) < 0) = true := decide_eq_true c8
          clear c8
          obtain rfl := Option.some.inj H
          have p264 : 0 ≤ (x4_2 : Int) := of_decide_eq_true (by first | (with_reducible assumption) | assumption)
          have q264 : x4_2 < (l0.length : Int) := of_decide_eq_true (by first | (with_reducible assumption) | assumption)
          obtain ⟨ad264, e264, hx264_0⟩ := Kd.at_int HR0.out x4_2 p264 q264
          cases e264
          replace p264 := eq_true p264
          replace q264 := eq_true q264
          go_wp2
          repeat (go_quiet (fail); try go_wp2)
          go_ret
          exact ⟨by first | rfl | (simp; done) | (simp [*]; done), by repeat (first | exact Drawn0.refl _ | apply Drawn0.step)⟩
         ·rw [if_neg c8] at H
          have c8b0 : decide ((rd l0 x4_2) < 0) = false := decide_eq_false c8
          clear c8
          by_cases c9 : (rd l0 x4_2) ≥ (l0.length : Int)
          ·rw [if_pos c9] at H
           have c9b0 : decide ((l0.length : Int) ≤ (rd l0 x4_2)) = true := decide_eq_true c9
           clear c9
           obtain rfl := Option.some.inj H
           have p264 : 0 ≤ (x4_2 : Int) := of_decide_eq_true (by first | (with_reducible assumption) | assumption)
           have q264 : x4_2 < (l0.length : Int) := of_decide_eq_true (by first | (with_reducible assumption) | assumption)
           obtain ⟨ad264, e264, hx264_0⟩ := Kd.at_int HR0.out x4_2 p264 q264
           cases e264
           replace p264 := eq_true p264
           replace q264 := eq_true q264
           have p265 : 0 ≤ (x4_2 : Int) := of_decide_eq_true (by first | (with_reducible assumption) | assumption)
           have q265 : x4_2 < (l0.length : Int) := of_decide_eq_true (by first | (with_reducible assumption) | assumption)
           obtain ⟨ad265, e265, hx265_0⟩ := Kd.at_int HR0.out x4_2 p265 q265
           obtain rfl : ad264 = ad265 := (by injection e265)
           replace p265 := eq_true p265
           replace q265 := eq_true q265
           go_wp2
           repeat (go_quiet (fail); try go_wp2)
           go_ret
           exact ⟨by first | rfl | (simp; done) | (simp [*]; done), by repeat (first | exact Drawn0.refl _ | apply Drawn0.step)⟩
          ·rw [if_neg c9] at H
           have c9b0 : decide ((l0.length : Int) ≤ (rd l0 x4_2)) = false := decide_eq_false c9
           clear c9
           by_cases c10 : (rd l0 x4_2) = x4_2
           ·rw [if_pos c10] at H
            have c10b0 : ((rd l0 x4_2) == x4_2) = true := beq_iff_eq.mpr c10
            have c10b1 : ((rd l0 x4_2) != x4_2) = false := bne_eq_false_iff_eq.mpr c10
            clear c10
            obtain rfl := Option.some.inj H
            have p264 : 0 ≤ (x4_2 : Int) := of_decide_eq_true (by first | (with_reducible assumption) | assumption)
            have q264 : x4_2 < (l0.length : Int) := of_decide_eq_true (by first | (with_reducible assumption) | assumption)
            obtain ⟨ad264, e264, hx264_0⟩ := Kd.at_int HR0.out x4_2 p264 q264
            cases e264
            replace p264 := eq_true p264
            replace q264 := eq_true q264
            have p265 : 0 ≤ (x4_2 : Int) := of_decide_eq_true (by first | (with_reducible assumption) | assumption)
            have q265 : x4_2 < (l0.length : Int) := of_decide_eq_true (by first | (with_reducible assumption) | assumption)
            obtain ⟨ad265, e265, hx265_0⟩ := Kd.at_int HR0.out x4_2 p265 q265
            obtain rfl : ad264 = ad265 := (by injection e265)
            replace p265 := eq_true p265
            replace q265 := eq_true q265
            have p266 : 0 ≤ (x4_2 : Int) := of_decide_eq_true (by first | (with_reducible assumption) | assumption)
            have q266 : x4_2 < (l0.length : Int) := of_decide_eq_true (by first | (with_reducible assumption) | assumption)
            obtain ⟨ad266, e266, hx266_0⟩ := Kd.at_int HR0.out x4_2 p266 q266
            obtain rfl : ad264 = ad266 := (by injection e266)
            replace p266 := eq_true p266
            replace q266 := eq_true q266
            go_wp2
            repeat (go_quiet (fail); try go_wp2)
            go_ret
            exact ⟨by first | rfl | (simp; done) | (simp [*]; done), by repeat (first | exact Drawn0.refl _ | apply Drawn0.step)⟩
           ·rw [if_neg c10] at H
            have c10b0 : ((rd l0 x4_2) == x4_2) = false := beq_eq_false_iff_ne.mpr c10
            have c10b1 : ((rd l0 x4_2) != x4_2) = true := bne_iff_ne.mpr c10
            by_cases c11 : 0 ≤ (rd l0 x4_2)
            ·rw [if_pos c11] at H
             have c11b0 : decide (0 ≤ (rd l0 x4_2)) = true := decide_eq_true c11
             clear c11
             by_cases c12 : (rd l0 x4_2) < (l0.length : Int)
             ·rw [if_pos c12] at H
              have c12b0 : decide ((rd l0 x4_2) < (l0.length : Int)) = true := decide_eq_true c12
              clear c12
              by_cases c13 : (rd l0 (rd l0 x4_2)) = x4_2
              ·rw [if_pos c13] at H
               have c13b0 : ((rd l0 (rd l0 x4_2)) == x4_2) = true := beq_iff_eq.mpr c13
               have c13b1 : ((rd l0 (rd l0 x4_2)) != x4_2) = false := bne_eq_false_iff_eq.mpr c13
               clear c13
               have H' := Aside0.mk H
               clear H
               have p264 : 0 ≤ (x4_2 : Int) := of_decide_eq_true (by first | (with_reducible assumption) | assumption)
               have q264 : x4_2 < (l0.length : Int) := of_decide_eq_true (by first | (with_reducible assumption) | assumption)
               obtain ⟨ad264, e264, hx264_0⟩ := Kd.at_int HR0.out x4_2 p264 q264
               cases e264
               replace p264 := eq_true p264
               replace q264 := eq_true q264
               have p265 : 0 ≤ (x4_2 : Int) := of_decide_eq_true (by first | (with_reducible assumption) | assumption)
               have q265 : x4_2 < (l0.length : Int) := of_decide_eq_true (by first | (with_reducible assumption) | assumption)
               obtain ⟨ad265, e265, hx265_0⟩ := Kd.at_int HR0.out x4_2 p265 q265
               obtain rfl : ad264 = ad265 := (by injection e265)
               replace p265 := eq_true p265
               replace q265 := eq_true q265
               have p266 : 0 ≤ (x4_2 : Int) := of_decide_eq_true (by first | (with_reducible assumption) | assumption)
               have q266 : x4_2 < (l0.length : Int) := of_decide_eq_true (by first | (with_reducible assumption) | assumption)
               obtain ⟨ad266, e266, hx266_0⟩ := Kd.at_int HR0.out x4_2 p266 q266
               obtain rfl : ad264 = ad266 := (by injection e266)
               replace p266 := eq_true p266
               replace q266 := eq_true q266
               have p267 : 0 ≤ (x4_2 : Int) := of_decide_eq_true (by first | (with_reducible assumption) | assumption)
               have q267 : x4_2 < (l0.length : Int) := of_decide_eq_true (by first | (with_reducible assumption) | assumption)
               obtain ⟨ad267, e267, hx267_0⟩ := Kd.at_int HR0.out x4_2 p267 q267
               obtain rfl : ad264 = ad267 := (by injection e267)
               replace p267 := eq_true p267
               replace q267 := eq_true q267
               have p268 : 0 ≤ ((rd l0 x4_2) : Int) := of_decide_eq_true (by first | (with_reducible assumption) | assumption)
               have q268 : (rd l0 x4_2) < (l0.length : Int) := of_decide_eq_true (by first | (with_reducible assumption) | assumption)
               obtain ⟨ad268, e268, hx268_0⟩ := Kd.at_int HR0.out (rd l0 x4_2) p268 q268
               obtain rfl : ad264 = ad268 := (by injection e268)
               replace p268 := eq_true p268
               replace q268 := eq_true q268
               go_wp2
               repeat (go_quiet (fail); try go_wp2)
               go_roundg k2
               case measure => have := HJ2.out; have := HK2.out; omega
               case rel => exact ⟨(wrap64 (x4_2 + 1)), (by first | rfl | (simp; done) | (simp [*]; done)), H', ⟨by have := HJ2.out; have := HK2.out; omega⟩, by repeat (first | exact Drawn0.refl _ | apply Drawn0.step)⟩
              ·rw [if_neg c13] at H
               have c13b0 : ((rd l0 (rd l0 x4_2)) == x4_2) = false := beq_eq_false_iff_ne.mpr c13
               have c13b1 : ((rd l0 (rd l0 x4_2)) != x4_2) = true := bne_iff_ne.mpr c13
               obtain rfl := Option.some.inj H
               have p264 : 0 ≤ (x4_2 : Int) := of_decide_eq_true (by first | (with_reducible assumption) | assumption)
               have q264 : x4_2 < (l0.length : Int) := of_decide_eq_true (by first | (with_reducible assumption) | assumption)
               obtain ⟨ad264, e264, hx264_0⟩ := Kd.at_int HR0.out x4_2 p264 q264
               cases e264
               replace p264 := eq_true p264
               replace q264 := eq_true q264
               have p265 : 0 ≤ (x4_2 : Int) := of_decide_eq_true (by first | (with_reducible assumption) | assumption)
               have q265 : x4_2 < (l0.length : Int) := of_decide_eq_true (by first | (with_reducible assumption) | assumption)
               obtain ⟨ad265, e265, hx265_0⟩ := Kd.at_int HR0.out x4_2 p265 q265
               obtain rfl : ad264 = ad265 := (by injection e265)
               replace p265 := eq_true p265
               replace q265 := eq_true q265
               have p266 : 0 ≤ (x4_2 : Int) := of_decide_eq_true (by first | (with_reducible assumption) | assumption)
               have q266 : x4_2 < (l0.length : Int) := of_decide_eq_true (by first | (with_reducible assumption) | assumption)
               obtain ⟨ad266, e266, hx266_0⟩ := Kd.at_int HR0.out x4_2 p266 q266
               obtain rfl : ad264 = ad266 := (by injection e266)
               replace p266 := eq_true p266
               replace q266 := eq_true q266
               have p267 : 0 ≤ (x4_2 : Int) := of_decide_eq_true (by first | (with_reducible assumption) | assumption)
               have q267 : x4_2 < (l0.length : Int) := of_decide_eq_true (by first | (with_reducible assumption) | assumption)
               obtain ⟨ad267, e267, hx267_0⟩ := Kd.at_int HR0.out x4_2 p267 q267
               obtain rfl : ad264 = ad267 := (by injection e267)
               replace p267 := eq_true p267
               replace q267 := eq_true q267
               have p268 : 0 ≤ ((rd l0 x4_2) : Int) := of_decide_eq_true (by first | (with_reducible assumption) | assumption)
               have q268 : (rd l0 x4_2) < (l0.length : Int) := of_decide_eq_true (by first | (with_reducible assumption) | assumption)
               obtain ⟨ad268, e268, hx268_0⟩ := Kd.at_int HR0.out (rd l0 x4_2) p268 q268
               obtain rfl : ad264 = ad268 := (by injection e268)
               replace p268 := eq_true p268
               replace q268 := eq_true q268
               go_wp2
               repeat (go_quiet (fail); try go_wp2)
               go_ret
               exact ⟨by first | rfl | (simp; done) | (simp [*]; done), by repeat (first | exact Drawn0.refl _ | apply Drawn0.step)⟩
             ·rw [if_neg c12] at H
              exact absurd H (by simp)
            ·rw [if_neg c11] at H
             exact absurd H (by simp)
        ·rw [if_neg c7] at H
         exact absurd H (by simp)
       ·rw [if_neg c6] at H
        have c6b0 : decide (x4_2 < (l0.length : Int)) = false := decide_eq_false c6
        clear c6
        have H' := Aside0.mk H
        clear H
        go_wp2
        repeat (go_quiet (fail); try go_wp2)
        go_loopg [5] k2 (fun kq v5 w' => ∃ (x5_3 : Int), v5 = .int .i64 x5_3 ∧ Aside0 (pomaderef07_Diagram.l1 kq l0 (wrap64 ((l0.length : Int) / 2)) x5_3 = some r) ∧ Aside0 (kq ≤ k2) ∧ Drawn0 w w')
        case atStart => exact ⟨(0), (by first | rfl | (simp; done) | (simp [*]; done)), H', ⟨Nat.le_refl _⟩, by repeat (first | exact Drawn0.refl _ | apply Drawn0.step)⟩
        case round =>
         clear H'
         try clear c1
         try clear c2
         try clear c2b0
         try clear c2b1
         try clear p2
         try clear q2
         try clear hx2
         try clear c4
         try clear c4b0
         try clear c5
         try clear c6
         try clear c6b0
         try clear p6
         try clear c7
         try clear c7b0
         try clear c8
         try clear c8b0
         try clear c9
         try clear c9b0
         try clear c10
         try clear c10b0
         try clear c10b1
         try clear c11
         try clear c11b0
         try clear c12
         try clear c12b0
         try clear c13
         try clear c13b0
         try clear c13b1
         try clear hx264_0
         try clear hx265_0
         try clear hx266_0
         try clear hx267_0
         try clear hx268_0
         try clear p2
         try clear p264
         try clear p265
         try clear p266
         try clear p267
         try clear p268
         try clear q264
         try clear q265
         try clear q266
         try clear q267
         try clear q268
         obtain ⟨x5_3, rfl, HA, HK3, ⟨m3, rfl⟩⟩ := hrel
         cases gk with
         | zero => exact absurd HA.out (by simp [pomaderef07_Diagram.l1])
         | succ k3 =>
          have H := HA.out
          clear HA
          simp only [pomaderef07_Diagram.l1] at H
          by_cases c14 : x5_3 < (l0.length : Int)
          ·rw [if_pos c14] at H
           have c14b0 : decide (x5_3 < (l0.length : Int)) = true := decide_eq_true c14
           clear c14
           have H' := Aside0.mk H
           clear H
           go_wp2
           repeat (go_quiet (fail); try go_wp2)
           go_loopg [6] k3 (fun kq v6 w' => ∃ (x6_4 : Int), v6 = .int .i64 x6_4 ∧ Aside0 (pomaderef07_Diagram.l2 kq l0 (wrap64 ((l0.length : Int) / 2)) x5_3 x6_4 = some r) ∧ Aside0 (kq ≤ k3) ∧ Drawn0 w w')
           case atStart => exact ⟨(0), (by first | rfl | (simp; done) | (simp [*]; done)), H', ⟨Nat.le_refl _⟩, by repeat (first | exact Drawn0.refl _ | apply Drawn0.step)⟩
           case round =>
            clear H'
            try clear c1
            try clear c2
            try clear c2b0
            try clear c2b1
            try clear p2
            try clear q2
            try clear hx2
            try clear c4
            try clear c4b0
            try clear c5
            try clear c6
            try clear c6b0
            try clear p6
            try clear c7
            try clear c7b0
            try clear c8
            try clear c8b0
            try clear c9
            try clear c9b0
            try clear c10
            try clear c10b0
            try clear c10b1
            try clear c11
            try clear c11b0
            try clear c12
            try clear c12b0
            try clear c13
            try clear c13b0
            try clear c13b1
            try clear c14
            try clear c14b0
            try clear hx264_0
            try clear hx265_0
            try clear hx266_0
            try clear hx267_0
            try clear hx268_0
            try clear p2
            try clear p264
            try clear p265
            try clear p266
            try clear p267
            try clear p268
            try clear p6
            try clear q2
            try clear q264
            try clear q265
            try clear q266
            try clear q267
            try clear q268
            obtain ⟨x6_4, rfl, HA, HK4, ⟨m4, rfl⟩⟩ := hrel
            cases gk with
            | zero => exact absurd HA.out (by simp [pomaderef07_Diagram.l2])
            | succ k4 =>
             have H := HA.out
             clear HA
             simp only [pomaderef07_Diagram.l2] at H
             by_cases c15 : x6_4 < (l0.length : Int)
             ·rw [if_pos c15] at H
              have c15b0 : decide (x6_4 < (l0.length : Int)) = true := decide_eq_true c15
              clear c15
              replace H := Option.bind_eq_some_iff.mp H
              obtain ⟨t269, A160, H⟩ := H
              replace H : (if 0 ≤ x5_3 then (if x5_3 < (l0.length : Int) then ((pomaderef07_border.f (wrap64 ((l0.length : Int) / 2)) (rd l0 x5_3)).bind fun t271 => ((pomaderef07_border.f (wrap64 ((l0.length : Int) / 2)) x6_4).bind fun t272 => (if 0 ≤ x6_4 then ((pomaderef07_border.f (wrap64 ((l0.length : Int) / 2)) (rd l0 x6_4)).bind fun t274 => (if t269 < t272 then (if t272 < t271 then (if t271 < t274 then (some 2) else (pomaderef07_Diagram.l2 k4 l0 (wrap64 ((l0.length : Int) / 2)) x5_3 (wrap64 (x6_4 + 1)))) else (pomaderef07_Diagram.l2 k4 l0 (wrap64 ((l0.length : Int) / 2)) x5_3 (wrap64 (x6_4 + 1)))) else (pomaderef07_Diagram.l2 k4 l0 (wrap64 ((l0.length : Int) / 2)) x5_3 (wrap64 (x6_4 + 1))))) else (none)))) else (none)) else (none)) = some r := H
              have A16 := Aside0.mk A160
              clear A160
              by_cases c17 : 0 ≤ x5_3
              ·rw [if_pos c17] at H
               have c17b0 : decide (0 ≤ x5_3) = true := decide_eq_true c17
               clear c17
               by_cases c18 : x5_3 < (l0.length : Int)
               ·rw [if_pos c18] at H
                have c18b0 : decide (x5_3 < (l0.length : Int)) = true := decide_eq_true c18
                clear c18
                replace H := Option.bind_eq_some_iff.mp H
                obtain ⟨t271, A190, H⟩ := H
                replace H : ((pomaderef07_border.f (wrap64 ((l0.length : Int) / 2)) x6_4).bind fun t272 => (if 0 ≤ x6_4 then ((pomaderef07_border.f (wrap64 ((l0.length : Int) / 2)) (rd l0 x6_4)).bind fun t274 => (if t269 < t272 then (if t272 < t271 then (if t271 < t274 then (some 2) else (pomaderef07_Diagram.l2 k4 l0 (wrap64 ((l0.length : Int) / 2)) x5_3 (wrap64 (x6_4 + 1)))) else (pomaderef07_Diagram.l2 k4 l0 (wrap64 ((l0.length : Int) / 2)) x5_3 (wrap64 (x6_4 + 1)))) else (pomaderef07_Diagram.l2 k4 l0 (wrap64 ((l0.length : Int) / 2)) x5_3 (wrap64 (x6_4 + 1))))) else (none))) = some r := H
                have A19 := Aside0.mk A190
                clear A190
                replace H := Option.bind_eq_some_iff.mp H
                obtain ⟨t272, A200, H⟩ := H
                replace H : (if 0 ≤ x6_4 then ((pomaderef07_border.f (wrap64 ((l0.length : Int) / 2)) (rd l0 x6_4)).bind fun t274 => (if t269 < t272 then (if t272 < t271 then (if t271 < t274 then (some 2) else (pomaderef07_Diagram.l2 k4 l0 (wrap64 ((l0.length : Int) / 2)) x5_3 (wrap64 (x6_4 + 1)))) else (pomaderef07_Diagram.l2 k4 l0 (wrap64 ((l0.length : Int) / 2)) x5_3 (wrap64 (x6_4 + 1)))) else (pomaderef07_Diagram.l2 k4 l0 (wrap64 ((l0.length : Int) / 2)) x5_3 (wrap64 (x6_4 + 1))))) else (none)) = some r := H
                have A20 := Aside0.mk A200
                clear A200
                by_cases c21 : 0 ≤ x6_4
                ·rw [if_pos c21] at H
                 have c21b0 : decide (0 ≤ x6_4) = true := decide_eq_true c21
                 clear c21
                 replace H := Option.bind_eq_some_iff.mp H
                 obtain ⟨t274, A220, H⟩ := H
                 replace H : (if t269 < t272 then (if t272 < t271 then (if t271 < t274 then (some 2) else (pomaderef07_Diagram.l2 k4 l0 (wrap64 ((l0.length : Int) / 2)) x5_3 (wrap64 (x6_4 + 1)))) else (pomaderef07_Diagram.l2 k4 l0 (wrap64 ((l0.length : Int) / 2)) x5_3 (wrap64 (x6_4 + 1)))) else (pomaderef07_Diagram.l2 k4 l0 (wrap64 ((l0.length : Int) / 2)) x5_3 (wrap64 (x6_4 + 1)))) = some r := H
                 have A22 := Aside0.mk A220
                 clear A220
                 by_cases c23 : t269 < t272
                 ·rw [if_pos c23] at H
                  have c23b0 : decide (t269 < t272) = true := decide_eq_true c23
                  clear c23
                  by_cases c24 : t272 < t271
                  ·rw [if_pos c24] at H
                   have c24b0 : decide (t272 < t271) = true := decide_eq_true c24
                   clear c24
                   by_cases c25 : t271 < t274
                   ·rw [if_pos c25] at H
                    have c25b0 : decide (t271 < t274) = true := decide_eq_true c25
                    clear c25
                    obtain rfl := Option.some.inj H
                    go_wp2_with (first | (go_at_call 53; (with_reducible refine (pomaderef07_border.calls (wrap64 ((l0.length : Int) / 2)) x5_3 t269 _ A16.out).mono ?_); rintro e w' ⟨rfl, ⟨nd, rfl⟩⟩; (try first | exact ⟨rfl, _, World.drewN_drewN _ _ _⟩ | exact ⟨rfl, _, Eq.trans (World.drewN_drewN _ _ _) (congrArg (World.drewN _) (Nat.add_assoc _ _ _))⟩); have p270 : 0 ≤ (x5_3 : Int) := of_decide_eq_true (by first | (with_reducible assumption) | assumption); have q270 : x5_3 < (l0.length : Int) := of_decide_eq_true (by first | (with_reducible assumption) | assumption); obtain ⟨ad270, e270, hx270_0⟩ := Kd.at_int HR0.out x5_3 p270 q270; cases e270; replace p270 := eq_true p270; replace q270 := eq_true q270) | (go_at_call 53; (with_reducible refine (pomaderef07_border.calls (wrap64 ((l0.length : Int) / 2)) (rd l0 x5_3) t271 _ A19.out).mono ?_); rintro e w' ⟨rfl, ⟨nd, rfl⟩⟩; (try first | exact ⟨rfl, _, World.drewN_drewN _ _ _⟩ | exact ⟨rfl, _, Eq.trans (World.drewN_drewN _ _ _) (congrArg (World.drewN _) (Nat.add_assoc _ _ _))⟩)) | (go_at_call 53; (with_reducible refine (pomaderef07_border.calls (wrap64 ((l0.length : Int) / 2)) x6_4 t272 _ A20.out).mono ?_); rintro e w' ⟨rfl, ⟨nd, rfl⟩⟩; (try first | exact ⟨rfl, _, World.drewN_drewN _ _ _⟩ | exact ⟨rfl, _, Eq.trans (World.drewN_drewN _ _ _) (congrArg (World.drewN _) (Nat.add_assoc _ _ _))⟩); have p273 : 0 ≤ (x6_4 : Int) := of_decide_eq_true (by first | (with_reducible assumption) | assumption); have q273 : x6_4 < (l0.length : Int) := of_decide_eq_true (by first | (with_reducible assumption) | assumption); obtain ⟨ad273, e273, hx273_0⟩ := Kd.at_int HR0.out x6_4 p273 q273; obtain rfl : ad270 = ad273 := (by injection e273); replace p273 := eq_true p273; replace q273 := eq_true q273) | (go_at_call 53; (with_reducible refine (pomaderef07_border.calls (wrap64 ((l0.length : Int) / 2)) (rd l0 x6_4) t274 _ A22.out).mono ?_); rintro e w' ⟨rfl, ⟨nd, rfl⟩⟩; (try first | exact ⟨rfl, _, World.drewN_drewN _ _ _⟩ | exact ⟨rfl, _, Eq.trans (World.drewN_drewN _ _ _) (congrArg (World.drewN _) (Nat.add_assoc _ _ _))⟩)))
                    repeat (go_quiet (first | (go_at_call 53; (with_reducible refine (pomaderef07_border.calls (wrap64 ((l0.length : Int) / 2)) x5_3 t269 _ A16.out).mono ?_); rintro e w' ⟨rfl, ⟨nd, rfl⟩⟩; (try first | exact ⟨rfl, _, World.drewN_drewN _ _ _⟩ | exact ⟨rfl, _, Eq.trans (World.drewN_drewN _ _ _) (congrArg (World.drewN _) (Nat.add_assoc _ _ _))⟩); have p270 : 0 ≤ (x5_3 : Int) := of_decide_eq_true (by first | (with_reducible assumption) | assumption); have q270 : x5_3 < (l0.length : Int) := of_decide_eq_true (by first | (with_reducible assumption) | assumption); obtain ⟨ad270, e270, hx270_0⟩ := Kd.at_int HR0.out x5_3 p270 q270; cases e270; replace p270 := eq_true p270; replace q270 := eq_true q270) | (go_at_call 53; (with_reducible refine (pomaderef07_border.calls (wrap64 ((l0.length : Int) / 2)) (rd l0 x5_3) t271 _ A19.out).mono ?_); rintro e w' ⟨rfl, ⟨nd, rfl⟩⟩; (try first | exact ⟨rfl, _, World.drewN_drewN _ _ _⟩ | exact ⟨rfl, _, Eq.trans (World.drewN_drewN _ _ _) (congrArg (World.drewN _) (Nat.add_assoc _ _ _))⟩)) | (go_at_call 53; (with_reducible refine (pomaderef07_border.calls (wrap64 ((l0.length : Int) / 2)) x6_4 t272 _ A20.out).mono ?_); rintro e w' ⟨rfl, ⟨nd, rfl⟩⟩; (try first | exact ⟨rfl, _, World.drewN_drewN _ _ _⟩ | exact ⟨rfl, _, Eq.trans (World.drewN_drewN _ _ _) (congrArg (World.drewN _) (Nat.add_assoc _ _ _))⟩); have p273 : 0 ≤ (x6_4 : Int) := of_decide_eq_true (by first | (with_reducible assumption) | assumption); have q273 : x6_4 < (l0.length : Int) := of_decide_eq_true (by first | (with_reducible assumption) | assumption); obtain ⟨ad273, e273, hx273_0⟩ := Kd.at_int HR0.out x6_4 p273 q273; obtain rfl : ad270 = ad273 := (by injection e273); replace p273 := eq_true p273; replace q273 := eq_true q273) | (go_at_call 53; (with_reducible refine (pomaderef07_border.calls (wrap64 ((l0.length : Int) / 2)) (rd l0 x6_4) t274 _ A22.out).mono ?_); rintro e w' ⟨rfl, ⟨nd, rfl⟩⟩; (try first | exact ⟨rfl, _, World.drewN_drewN _ _ _⟩ | exact ⟨rfl, _, Eq.trans (World.drewN_drewN _ _ _) (congrArg (World.drewN _) (Nat.add_assoc _ _ _))⟩))); try go_wp2_with (first | (go_at_call 53; (with_reducible refine (pomaderef07_border.calls (wrap64 ((l0.length : Int) / 2)) x5_3 t269 _ A16.out).mono ?_); rintro e w' ⟨rfl, ⟨nd, rfl⟩⟩; (try first | exact ⟨rfl, _, World.drewN_drewN _ _ _⟩ | exact ⟨rfl, _, Eq.trans (World.drewN_drewN _ _ _) (congrArg (World.drewN _) (Nat.add_assoc _ _ _))⟩); have p270 : 0 ≤ (x5_3 : Int) := of_decide_eq_true (by first | (with_reducible assumption) | assumption); have q270 : x5_3 < (l0.length : Int) := of_decide_eq_true (by first | (with_reducible assumption) | assumption); obtain ⟨ad270, e270, hx270_0⟩ := Kd.at_int HR0.out x5_3 p270 q270; cases e270; replace p270 := eq_true p270; replace q270 := eq_true q270) | (go_at_call 53; (with_reducible refine (pomaderef07_border.calls (wrap64 ((l0.length : Int) / 2)) (rd l0 x5_3) t271 _ A19.out).mono ?_); rintro e w' ⟨rfl, ⟨nd, rfl⟩⟩; (try first | exact ⟨rfl, _, World.drewN_drewN _ _ _⟩ | exact ⟨rfl, _, Eq.trans (World.drewN_drewN _ _ _) (congrArg (World.drewN _) (Nat.add_assoc _ _ _))⟩)) | (go_at_call 53; (with_reducible refine (pomaderef07_border.calls (wrap64 ((l0.length : Int) / 2)) x6_4 t272 _ A20.out).mono ?_); rintro e w' ⟨rfl, ⟨nd, rfl⟩⟩; (try first | exact ⟨rfl, _, World.drewN_drewN _ _ _⟩ | exact ⟨rfl, _, Eq.trans (World.drewN_drewN _ _ _) (congrArg (World.drewN _) (Nat.add_assoc _ _ _))⟩); have p273 : 0 ≤ (x6_4 : Int) := of_decide_eq_true (by first | (with_reducible assumption) | assumption); have q273 : x6_4 < (l0.length : Int) := of_decide_eq_true (by first | (with_reducible assumption) | assumption); obtain ⟨ad273, e273, hx273_0⟩ := Kd.at_int HR0.out x6_4 p273 q273; obtain rfl : ad270 = ad273 := (by injection e273); replace p273 := eq_true p273; replace q273 := eq_true q273) | (go_at_call 53; (with_reducible refine (pomaderef07_border.calls (wrap64 ((l0.length : Int) / 2)) (rd l0 x6_4) t274 _ A22.out).mono ?_); rintro e w' ⟨rfl, ⟨nd, rfl⟩⟩; (try first | exact ⟨rfl, _, World.drewN_drewN _ _ _⟩ | exact ⟨rfl, _, Eq.trans (World.drewN_drewN _ _ _) (congrArg (World.drewN _) (Nat.add_assoc _ _ _))⟩))))
                    go_ret
                    exact ⟨by first | rfl | (simp; done) | (simp [*]; done), by repeat (first | exact Drawn0.refl _ | apply Drawn0.step)⟩
                   ·rw [if_neg c25] at H
                    have c25b0 : decide (t271 < t274) = false := decide_eq_false c25
                    clear c25
                    have H' := Aside0.mk H
                    clear H
                    go_wp2_with (first | (go_at_call 53; (with_reducible refine (pomaderef07_border.calls (wrap64 ((l0.length : Int) / 2)) x5_3 t269 _ A16.out).mono ?_); rintro e w' ⟨rfl, ⟨nd, rfl⟩⟩; (try first | exact ⟨rfl, _, World.drewN_drewN _ _ _⟩ | exact ⟨rfl, _, Eq.trans (World.drewN_drewN _ _ _) (congrArg (World.drewN _) (Nat.add_assoc _ _ _))⟩); have p270 : 0 ≤ (x5_3 : Int) := of_decide_eq_true (by first | (with_reducible assumption) | assumption); have q270 : x5_3 < (l0.length : Int) := of_decide_eq_true (by first | (with_reducible assumption) | assumption); obtain ⟨ad270, e270, hx270_0⟩ := Kd.at_int HR0.out x5_3 p270 q270; cases e270; replace p270 := eq_true p270; replace q270 := eq_true q270) | (go_at_call 53; (with_reducible refine (pomaderef07_border.calls (wrap64 ((l0.length : Int) / 2)) (rd l0 x5_3) t271 _ A19.out).mono ?_); rintro e w' ⟨rfl, ⟨nd, rfl⟩⟩; (try first | exact ⟨rfl, _, World.drewN_drewN _ _ _⟩ | exact ⟨rfl, _, Eq.trans (World.drewN_drewN _ _ _) (congrArg (World.drewN _) (Nat.add_assoc _ _ _))⟩)) | (go_at_call 53; (with_reducible refine (pomaderef07_border.calls (wrap64 ((l0.length : Int) / 2)) x6_4 t272 _ A20.out).mono ?_); rintro e w' ⟨rfl, ⟨nd, rfl⟩⟩; (try first | exact ⟨rfl, _, World.drewN_drewN _ _ _⟩ | exact ⟨rfl, _, Eq.trans (World.drewN_drewN _ _ _) (congrArg (World.drewN _) (Nat.add_assoc _ _ _))⟩); have p273 : 0 ≤ (x6_4 : Int) := of_decide_eq_true (by first | (with_reducible assumption) | assumption); have q273 : x6_4 < (l0.length : Int) := of_decide_eq_true (by first | (with_reducible assumption) | assumption); obtain ⟨ad273, e273, hx273_0⟩ := Kd.at_int HR0.out x6_4 p273 q273; obtain rfl : ad270 = ad273 := (by injection e273); replace p273 := eq_true p273; replace q273 := eq_true q273) | (go_at_call 53; (with_reducible refine (pomaderef07_border.calls (wrap64 ((l0.length : Int) / 2)) (rd l0 x6_4) t274 _ A22.out).mono ?_); rintro e w' ⟨rfl, ⟨nd, rfl⟩⟩; (try first | exact ⟨rfl, _, World.drewN_drewN _ _ _⟩ | exact ⟨rfl, _, Eq.trans (World.drewN_drewN _ _ _) (congrArg (World.drewN _) (Nat.add_assoc _ _ _))⟩)))
                    repeat (go_quiet (first | (go_at_call 53; (with_reducible refine (pomaderef07_border.calls (wrap64 ((l0.length : Int) / 2)) x5_3 t269 _ A16.out).mono ?_); rintro e w' ⟨rfl, ⟨nd, rfl⟩⟩; (try first | exact ⟨rfl, _, World.drewN_drewN _ _ _⟩ | exact ⟨rfl, _, Eq.trans (World.drewN_drewN _ _ _) (congrArg (World.drewN _) (Nat.add_assoc _ _ _))⟩); have p270 : 0 ≤ (x5_3 : Int) := of_decide_eq_true (by first | (with_reducible assumption) | assumption); have q270 : x5_3 < (l0.length : Int) := of_decide_eq_true (by first | (with_reducible assumption) | assumption); obtain ⟨ad270, e270, hx270_0⟩ := Kd.at_int HR0.out x5_3 p270 q270; cases e270; replace p270 := eq_true p270; replace q270 := eq_true q270) | (go_at_call 53; (with_reducible refine (pomaderef07_border.calls (wrap64 ((l0.length : Int) / 2)) (rd l0 x5_3) t271 _ A19.out).mono ?_); rintro e w' ⟨rfl, ⟨nd, rfl⟩⟩; (try first | exact ⟨rfl, _, World.drewN_drewN _ _ _⟩ | exact ⟨rfl, _, Eq.trans (World.drewN_drewN _ _ _) (congrArg (World.drewN _) (Nat.add_assoc _ _ _))⟩)) | (go_at_call 53; (with_reducible refine (pomaderef07_border.calls (wrap64 ((l0.length : Int) / 2)) x6_4 t272 _ A20.out).mono ?_); rintro e w' ⟨rfl, ⟨nd, rfl⟩⟩; (try first | exact ⟨rfl, _, World.drewN_drewN _ _ _⟩ | exact ⟨rfl, _, Eq.trans (World.drewN_drewN _ _ _) (congrArg (World.drewN _) (Nat.add_assoc _ _ _))⟩); have p273 : 0 ≤ (x6_4 : Int) := of_decide_eq_true (by first | (with_reducible assumption) | assumption); have q273 : x6_4 < (l0.length : Int) := of_decide_eq_true (by first | (with_reducible assumption) | assumption); obtain ⟨ad273, e273, hx273_0⟩ := Kd.at_int HR0.out x6_4 p273 q273; obtain rfl : ad270 = ad273 := (by injection e273); replace p273 := eq_true p273; replace q273 := eq_true q273) | (go_at_call 53; (with_reducible refine (pomaderef07_border.calls (wrap64 ((l0.length : Int) / 2)) (rd l0 x6_4) t274 _ A22.out).mono ?_); rintro e w' ⟨rfl, ⟨nd, rfl⟩⟩; (try first | exact ⟨rfl, _, World.drewN_drewN _ _ _⟩ | exact ⟨rfl, _, Eq.trans (World.drewN_drewN _ _ _) (congrArg (World.drewN _) (Nat.add_assoc _ _ _))⟩))); try go_wp2_with (first | (go_at_call 53; (with_reducible refine (pomaderef07_border.calls (wrap64 ((l0.length : Int) / 2)) x5_3 t269 _ A16.out).mono ?_); rintro e w' ⟨rfl, ⟨nd, rfl⟩⟩; (try first | exact ⟨rfl, _, World.drewN_drewN _ _ _⟩ | exact ⟨rfl, _, Eq.trans (World.drewN_drewN _ _ _) (congrArg (World.drewN _) (Nat.add_assoc _ _ _))⟩); have p270 : 0 ≤ (x5_3 : Int) := of_decide_eq_true (by first | (with_reducible assumption) | assumption); have q270 : x5_3 < (l0.length : Int) := of_decide_eq_true (by first | (with_reducible assumption) | assumption); obtain ⟨ad270, e270, hx270_0⟩ := Kd.at_int HR0.out x5_3 p270 q270; cases e270; replace p270 := eq_true p270; replace q270 := eq_true q270) | (go_at_call 53; (with_reducible refine (pomaderef07_border.calls (wrap64 ((l0.length : Int) / 2)) (rd l0 x5_3) t271 _ A19.out).mono ?_); rintro e w' ⟨rfl, ⟨nd, rfl⟩⟩; (try first | exact ⟨rfl, _, World.drewN_drewN _ _ _⟩ | exact ⟨rfl, _, Eq.trans (World.drewN_drewN _ _ _) (congrArg (World.drewN _) (Nat.add_assoc _ _ _))⟩)) | (go_at_call 53; (with_reducible refine (pomaderef07_border.calls (wrap64 ((l0.length : Int) / 2)) x6_4 t272 _ A20.out).mono ?_); rintro e w' ⟨rfl, ⟨nd, rfl⟩⟩; (try first | exact ⟨rfl, _, World.drewN_drewN _ _ _⟩ | exact ⟨rfl, _, Eq.trans (World.drewN_drewN _ _ _) (congrArg (World.drewN _) (Nat.add_assoc _ _ _))⟩); have p273 : 0 ≤ (x6_4 : Int) := of_decide_eq_true (by first | (with_reducible assumption) | assumption); have q273 : x6_4 < (l0.length : Int) := of_decide_eq_true (by first | (with_reducible assumption) | assumption); obtain ⟨ad273, e273, hx273_0⟩ := Kd.at_int HR0.out x6_4 p273 q273; obtain rfl : ad270 = ad273 := (by injection e273); replace p273 := eq_true p273; replace q273 := eq_true q273) | (go_at_call 53; (with_reducible refine (pomaderef07_border.calls (wrap64 ((l0.length : Int) / 2)) (rd l0 x6_4) t274 _ A22.out).mono ?_); rintro e w' ⟨rfl, ⟨nd, rfl⟩⟩; (try first | exact ⟨rfl, _, World.drewN_drewN _ _ _⟩ | exact ⟨rfl, _, Eq.trans (World.drewN_drewN _ _ _) (congrArg (World.drewN _) (Nat.add_assoc _ _ _))⟩))))
                    go_roundg k4
                    case measure => have := HJ2.out; have := HK2.out; have := HK3.out; have := HK4.out; omega
                    case rel => exact ⟨(wrap64 (x6_4 + 1)), (by first | rfl | (simp; done) | (simp [*]; done)), H', ⟨by have := HJ2.out; have := HK2.out; have := HK3.out; have := HK4.out; omega⟩, by repeat (first | exact Drawn0.refl _ | apply Drawn0.step)⟩
                  ·rw [if_neg c24] at H
                   have c24b0 : decide (t272 < t271) = false := decide_eq_false c24
                   clear c24
                   have H' := Aside0.mk H
                   clear H
                   go_wp2_with (first | (go_at_call 53; (with_reducible refine (pomaderef07_border.calls (wrap64 ((l0.length : Int) / 2)) x5_3 t269 _ A16.out).mono ?_); rintro e w' ⟨rfl, ⟨nd, rfl⟩⟩; (try first | exact ⟨rfl, _, World.drewN_drewN _ _ _⟩ | exact ⟨rfl, _, Eq.trans (World.drewN_drewN _ _ _) (congrArg (World.drewN _) (Nat.add_assoc _ _ _))⟩); have p270 : 0 ≤ (x5_3 : Int) := of_decide_eq_true (by first | (with_reducible assumption) | assumption); have q270 : x5_3 < (l0.length : Int) := of_decide_eq_true (by first | (with_reducible assumption) | assumption); obtain ⟨ad270, e270, hx270_0⟩ := Kd.at_int HR0.out x5_3 p270 q270; cases e270; replace p270 := eq_true p270; replace q270 := eq_true q270) | (go_at_call 53; (with_reducible refine (pomaderef07_border.calls (wrap64 ((l0.length : Int) / 2)) (rd l0 x5_3) t271 _ A19.out).mono ?_); rintro e w' ⟨rfl, ⟨nd, rfl⟩⟩; (try first | exact ⟨rfl, _, World.drewN_drewN _ _ _⟩ | exact ⟨rfl, _, Eq.trans (World.drewN_drewN _ _ _) (congrArg (World.drewN _) (Nat.add_assoc _ _ _))⟩)) | (go_at_call 53; (with_reducible refine (pomaderef07_border.calls (wrap64 ((l0.length : Int) / 2)) x6_4 t272 _ A20.out).mono ?_); rintro e w' ⟨rfl, ⟨nd, rfl⟩⟩; (try first | exact ⟨rfl, _, World.drewN_drewN _ _ _⟩ | exact ⟨rfl, _, Eq.trans (World.drewN_drewN _ _ _) (congrArg (World.drewN _) (Nat.add_assoc _ _ _))⟩); have p273 : 0 ≤ (x6_4 : Int) := of_decide_eq_true (by first | (with_reducible assumption) | assumption); have q273 : x6_4 < (l0.length : Int) := of_decide_eq_true (by first | (with_reducible assumption) | assumption); obtain ⟨ad273, e273, hx273_0⟩ := Kd.at_int HR0.out x6_4 p273 q273; obtain rfl : ad270 = ad273 := (by injection e273); replace p273 := eq_true p273; replace q273 := eq_true q273) | (go_at_call 53; (with_reducible refine (pomaderef07_border.calls (wrap64 ((l0.length : Int) / 2)) (rd l0 x6_4) t274 _ A22.out).mono ?_); rintro e w' ⟨rfl, ⟨nd, rfl⟩⟩; (try first | exact ⟨rfl, _, World.drewN_drewN _ _ _⟩ | exact ⟨rfl, _, Eq.trans (World.drewN_drewN _ _ _) (congrArg (World.drewN _) (Nat.add_assoc _ _ _))⟩)))
                   repeat (go_quiet (first | (go_at_call 53; (with_reducible refine (pomaderef07_border.calls (wrap64 ((l0.length : Int) / 2)) x5_3 t269 _ A16.out).mono ?_); rintro e w' ⟨rfl, ⟨nd, rfl⟩⟩; (try first | exact ⟨rfl, _, World.drewN_drewN _ _ _⟩ | exact ⟨rfl, _, Eq.trans (World.drewN_drewN _ _ _) (congrArg (World.drewN _) (Nat.add_assoc _ _ _))⟩); have p270 : 0 ≤ (x5_3 : Int) := of_decide_eq_true (by first | (with_reducible assumption) | assumption); have q270 : x5_3 < (l0.length : Int) := of_decide_eq_true (by first | (with_reducible assumption) | assumption); obtain ⟨ad270, e270, hx270_0⟩ := Kd.at_int HR0.out x5_3 p270 q270; cases e270; replace p270 := eq_true p270; replace q270 := eq_true q270) | (go_at_call 53; (with_reducible refine (pomaderef07_border.calls (wrap64 ((l0.length : Int) / 2)) (rd l0 x5_3) t271 _ A19.out).mono ?_); rintro e w' ⟨rfl, ⟨nd, rfl⟩⟩; (try first | exact ⟨rfl, _, World.drewN_drewN _ _ _⟩ | exact ⟨rfl, _, Eq.trans (World.drewN_drewN _ _ _) (congrArg (World.drewN _) (Nat.add_assoc _ _ _))⟩)) | (go_at_call 53; (with_reducible refine (pomaderef07_border.calls (wrap64 ((l0.length : Int) / 2)) x6_4 t272 _ A20.out).mono ?_); rintro e w' ⟨rfl, ⟨nd, rfl⟩⟩; (try first | exact ⟨rfl, _, World.drewN_drewN _ _ _⟩ | exact ⟨rfl, _, Eq.trans (World.drewN_drewN _ _ _) (congrArg (World.drewN _) (Nat.add_assoc _ _ _))⟩); have p273 : 0 ≤ (x6_4 : Int) := of_decide_eq_true (by first | (with_reducible assumption) | assumption); have q273 : x6_4 < (l0.length : Int) := of_decide_eq_true (by first | (with_reducible assumption) | assumption); obtain ⟨ad273, e273, hx273_0⟩ := Kd.at_int HR0.out x6_4 p273 q273; obtain rfl : ad270 = ad273 := (by injection e273); replace p273 := eq_true p273; replace q273 := eq_true q273) | (go_at_call 53; (with_reducible refine (pomaderef07_border.calls (wrap64 ((l0.length : Int) / 2)) (rd l0 x6_4) t274 _ A22.out).mono ?_); rintro e w' ⟨rfl, ⟨nd, rfl⟩⟩; (try first | exact ⟨rfl, _, World.drewN_drewN _ _ _⟩ | exact ⟨rfl, _, Eq.trans (World.drewN_drewN _ _ _) (congrArg (World.drewN _) (Nat.add_assoc _ _ _))⟩))); try go_wp2_with (first | (go_at_call 53; (with_reducible refine (pomaderef07_border.calls (wrap64 ((l0.length : Int) / 2)) x5_3 t269 _ A16.out).mono ?_); rintro e w' ⟨rfl, ⟨nd, rfl⟩⟩; (try first | exact ⟨rfl, _, World.drewN_drewN _ _ _⟩ | exact ⟨rfl, _, Eq.trans (World.drewN_drewN _ _ _) (congrArg (World.drewN _) (Nat.add_assoc _ _ _))⟩); have p270 : 0 ≤ (x5_3 : Int) := of_decide_eq_true (by first | (with_reducible assumption) | assumption); have q270 : x5_3 < (l0.length : Int) := of_decide_eq_true (by first | (with_reducible assumption) | assumption); obtain ⟨ad270, e270, hx270_0⟩ := Kd.at_int HR0.out x5_3 p270 q270; cases e270; replace p270 := eq_true p270; replace q270 := eq_true q270) | (go_at_call 53; (with_reducible refine (pomaderef07_border.calls (wrap64 ((l0.length : Int) / 2)) (rd l0 x5_3) t271 _ A19.out).mono ?_); rintro e w' ⟨rfl, ⟨nd, rfl⟩⟩; (try first | exact ⟨rfl, _, World.drewN_drewN _ _ _⟩ | exact ⟨rfl, _, Eq.trans (World.drewN_drewN _ _ _) (congrArg (World.drewN _) (Nat.add_assoc _ _ _))⟩)) | (go_at_call 53; (with_reducible refine (pomaderef07_border.calls (wrap64 ((l0.length : Int) / 2)) x6_4 t272 _ A20.out).mono ?_); rintro e w' ⟨rfl, ⟨nd, rfl⟩⟩; (try first | exact ⟨rfl, _, World.drewN_drewN _ _ _⟩ | exact ⟨rfl, _, Eq.trans (World.drewN_drewN _ _ _) (congrArg (World.drewN _) (Nat.add_assoc _ _ _))⟩); have p273 : 0 ≤ (x6_4 : Int) := of_decide_eq_true (by first | (with_reducible assumption) | assumption); have q273 : x6_4 < (l0.length : Int) := of_decide_eq_true (by first | (with_reducible assumption) | assumption); obtain ⟨ad273, e273, hx273_0⟩ := Kd.at_int HR0.out x6_4 p273 q273; obtain rfl : ad270 = ad273 := (by injection e273); replace p273 := eq_true p273; replace q273 := eq_true q273) | (go_at_call 53; (with_reducible refine (pomaderef07_border.calls (wrap64 ((l0.length : Int) / 2)) (rd l0 x6_4) t274 _ A22.out).mono ?_); rintro e w' ⟨rfl, ⟨nd, rfl⟩⟩; (try first | exact ⟨rfl, _, World.drewN_drewN _ _ _⟩ | exact ⟨rfl, _, Eq.trans (World.drewN_drewN _ _ _) (congrArg (World.drewN _) (Nat.add_assoc _ _ _))⟩))))
                   go_roundg k4
                   case measure => have := HJ2.out; have := HK2.out; have := HK3.out; have := HK4.out; omega
                   case rel => exact ⟨(wrap64 (x6_4 + 1)), (by first | rfl | (simp; done) | (simp [*]; done)), H', ⟨by have := HJ2.out; have := HK2.out; have := HK3.out; have := HK4.out; omega⟩, by repeat (first | exact Drawn0.refl _ | apply Drawn0.step)⟩
                 ·rw [if_neg c23] at H
                  have c23b0 : decide (t269 < t272) = false := decide_eq_false c23
                  clear c23
                  have H' := Aside0.mk H
                  clear H
                  go_wp2_with (first | (go_at_call 53; (with_reducible refine (pomaderef07_border.calls (wrap64 ((l0.length : Int) / 2)) x5_3 t269 _ A16.out).mono ?_); rintro e w' ⟨rfl, ⟨nd, rfl⟩⟩; (try first | exact ⟨rfl, _, World.drewN_drewN _ _ _⟩ | exact ⟨rfl, _, Eq.trans (World.drewN_drewN _ _ _) (congrArg (World.drewN _) (Nat.add_assoc _ _ _))⟩); have p270 : 0 ≤ (x5_3 : Int) := of_decide_eq_true (by first | (with_reducible assumption) | assumption); have q270 : x5_3 < (l0.length : Int) := of_decide_eq_true (by first | (with_reducible assumption) | assumption); obtain ⟨ad270, e270, hx270_0⟩ := Kd.at_int HR0.out x5_3 p270 q270; cases e270; replace p270 := eq_true p270; replace q270 := eq_true q270) | (go_at_call 53; (with_reducible refine (pomaderef07_border.calls (wrap64 ((l0.length : Int) / 2)) (rd l0 x5_3) t271 _ A19.out).mono ?_); rintro e w' ⟨rfl, ⟨nd, rfl⟩⟩; (try first | exact ⟨rfl, _, World.drewN_drewN _ _ _⟩ | exact ⟨rfl, _, Eq.trans (World.drewN_drewN _ _ _) (congrArg (World.drewN _) (Nat.add_assoc _ _ _))⟩)) | (go_at_call 53; (with_reducible refine (pomaderef07_border.calls (wrap64 ((l0.length : Int) / 2)) x6_4 t272 _ A20.out).mono ?_); rintro e w' ⟨rfl, ⟨nd, rfl⟩⟩; (try first | exact ⟨rfl, _, World.drewN_drewN _ _ _⟩ | exact ⟨rfl, _, Eq.trans (World.drewN_drewN _ _ _) (congrArg (World.drewN _) (Nat.add_assoc _ _ _))⟩); have p273 : 0 ≤ (x6_4 : Int) := of_decide_eq_true (by first | (with_reducible assumption) | assumption); have q273 : x6_4 < (l0.length : Int) := of_decide_eq_true (by first | (with_reducible assumption) | assumption); obtain ⟨ad273, e273, hx273_0⟩ := Kd.at_int HR0.out x6_4 p273 q273; obtain rfl : ad270 = ad273 := (by injection e273); replace p273 := eq_true p273; replace q273 := eq_true q273) | (go_at_call 53; (with_reducible refine (pomaderef07_border.calls (wrap64 ((l0.length : Int) / 2)) (rd l0 x6_4) t274 _ A22.out).mono ?_); rintro e w' ⟨rfl, ⟨nd, rfl⟩⟩; (try first | exact ⟨rfl, _, World.drewN_drewN _ _ _⟩ | exact ⟨rfl, _, Eq.trans (World.drewN_drewN _ _ _) (congrArg (World.drewN _) (Nat.add_assoc _ _ _))⟩)))
                  repeat (go_quiet (first | (go_at_call 53; (with_reducible refine (pomaderef07_border.calls (wrap64 ((l0.length : Int) / 2)) x5_3 t269 _ A16.out).mono ?_); rintro e w' ⟨rfl, ⟨nd, rfl⟩⟩; (try first | exact ⟨rfl, _, World.drewN_drewN _ _ _⟩ | exact ⟨rfl, _, Eq.trans (World.drewN_drewN _ _ _) (congrArg (World.drewN _) (Nat.add_assoc _ _ _))⟩); have p270 : 0 ≤ (x5_3 : Int) := of_decide_eq_true (by first | (with_reducible assumption) | assumption); have q270 : x5_3 < (l0.length : Int) := of_decide_eq_true (by first | (with_reducible assumption) | assumption); obtain ⟨ad270, e270, hx270_0⟩ := Kd.at_int HR0.out x5_3 p270 q270; cases e270; replace p270 := eq_true p270; replace q270 := eq_true q270) | (go_at_call 53; (with_reducible refine (pomaderef07_border.calls (wrap64 ((l0.length : Int) / 2)) (rd l0 x5_3) t271 _ A19.out).mono ?_); rintro e w' ⟨rfl, ⟨nd, rfl⟩⟩; (try first | exact ⟨rfl, _, World.drewN_drewN _ _ _⟩ | exact ⟨rfl, _, Eq.trans (World.drewN_drewN _ _ _) (congrArg (World.drewN _) (Nat.add_assoc _ _ _))⟩)) | (go_at_call 53; (with_reducible refine (pomaderef07_border.calls (wrap64 ((l0.length : Int) / 2)) x6_4 t272 _ A20.out).mono ?_); rintro e w' ⟨rfl, ⟨nd, rfl⟩⟩; (try first | exact ⟨rfl, _, World.drewN_drewN _ _ _⟩ | exact ⟨rfl, _, Eq.trans (World.drewN_drewN _ _ _) (congrArg (World.drewN _) (Nat.add_assoc _ _ _))⟩); have p273 : 0 ≤ (x6_4 : Int) := of_decide_eq_true (by first | (with_reducible assumption) | assumption); have q273 : x6_4 < (l0.length : Int) := of_decide_eq_true (by first | (with_reducible assumption) | assumption); obtain ⟨ad273, e273, hx273_0⟩ := Kd.at_int HR0.out x6_4 p273 q273; obtain rfl : ad270 = ad273 := (by injection e273); replace p273 := eq_true p273; replace q273 := eq_true q273) | (go_at_call 53; (with_reducible refine (pomaderef07_border.calls (wrap64 ((l0.length : Int) / 2)) (rd l0 x6_4) t274 _ A22.out).mono ?_); rintro e w' ⟨rfl, ⟨nd, rfl⟩⟩; (try first | exact ⟨rfl, _, World.drewN_drewN _ _ _⟩ | exact ⟨rfl, _, Eq.trans (World.drewN_drewN _ _ _) (congrArg (World.drewN _) (Nat.add_assoc _ _ _))⟩))); try go_wp2_with (first | (go_at_call 53; (with_reducible refine (pomaderef07_border.calls (wrap64 ((l0.length : Int) / 2)) x5_3 t269 _ A16.out).mono ?_); rintro e w' ⟨rfl, ⟨nd, rfl⟩⟩; (try first | exact ⟨rfl, _, World.drewN_drewN _ _ _⟩ | exact ⟨rfl, _, Eq.trans (World.drewN_drewN _ _ _) (congrArg (World.drewN _) (Nat.add_assoc _ _ _))⟩); have p270 : 0 ≤ (x5_3 : Int) := of_decide_eq_true (by first | (with_reducible assumption) | assumption); have q270 : x5_3 < (l0.length : Int) := of_decide_eq_true (by first | (with_reducible assumption) | assumption); obtain ⟨ad270, e270, hx270_0⟩ := Kd.at_int HR0.out x5_3 p270 q270; cases e270; replace p270 := eq_true p270; replace q270 := eq_true q270) | (go_at_call 53; (with_reducible refine (pomaderef07_border.calls (wrap64 ((l0.length : Int) / 2)) (rd l0 x5_3) t271 _ A19.out).mono ?_); rintro e w' ⟨rfl, ⟨nd, rfl⟩⟩; (try first | exact ⟨rfl, _, World.drewN_drewN _ _ _⟩ | exact ⟨rfl, _, Eq.trans (World.drewN_drewN _ _ _) (congrArg (World.drewN _) (Nat.add_assoc _ _ _))⟩)) | (go_at_call 53; (with_reducible refine (pomaderef07_border.calls (wrap64 ((l0.length : Int) / 2)) x6_4 t272 _ A20.out).mono ?_); rintro e w' ⟨rfl, ⟨nd, rfl⟩⟩; (try first | exact ⟨rfl, _, World.drewN_drewN _ _ _⟩ | exact ⟨rfl, _, Eq.trans (World.drewN_drewN _ _ _) (congrArg (World.drewN _) (Nat.add_assoc _ _ _))⟩); have p273 : 0 ≤ (x6_4 : Int) := of_decide_eq_true (by first | (with_reducible assumption) | assumption); have q273 : x6_4 < (l0.length : Int) := of_decide_eq_true (by first | (with_reducible assumption) | assumption); obtain ⟨ad273, e273, hx273_0⟩ := Kd.at_int HR0.out x6_4 p273 q273; obtain rfl : ad270 = ad273 := (by injection e273); replace p273 := eq_true p273; replace q273 := eq_true q273) | (go_at_call 53; (with_reducible refine (pomaderef07_border.calls (wrap64 ((l0.length : Int) / 2)) (rd l0 x6_4) t274 _ A22.out).mono ?_); rintro e w' ⟨rfl, ⟨nd, rfl⟩⟩; (try first | exact ⟨rfl, _, World.drewN_drewN _ _ _⟩ | exact ⟨rfl, _, Eq.trans (World.drewN_drewN _ _ _) (congrArg (World.drewN _) (Nat.add_assoc _ _ _))⟩))))
                  go_roundg k4
                  case measure => have := HJ2.out; have := HK2.out; have := HK3.out; have := HK4.out; omega
                  case rel => exact ⟨(wrap64 (x6_4 + 1)), (by first | rfl | (simp; done) | (simp [*]; done)), H', ⟨by have := HJ2.out; have := HK2.out; have := HK3.out; have := HK4.out; omega⟩, by repeat (first | exact Drawn0.refl _ | apply Drawn0.step)⟩
                ·rw [if_neg c21] at H
                 exact absurd H (by simp)
               ·rw [if_neg c18] at H
                exact absurd H (by simp)
              ·rw [if_neg c17] at H
               exact absurd H (by simp)
             ·rw [if_neg c15] at H
              have c15b0 : decide (x6_4 < (l0.length : Int)) = false := decide_eq_false c15
              clear c15
              have H' := Aside0.mk H
              clear H
              go_wp2
              repeat (go_quiet (fail); try go_wp2)
              go_roundg k4
              case measure => have := HJ2.out; have := HK2.out; have := HK3.out; have := HK4.out; omega
              case rel => exact ⟨(wrap64 (x5_3 + 1)), (by first | rfl | (simp; done) | (simp [*]; done)), H', ⟨by have := HJ2.out; have := HK2.out; have := HK3.out; have := HK4.out; omega⟩, by repeat (first | exact Drawn0.refl _ | apply Drawn0.step)⟩
          ·rw [if_neg c14] at H
           have c14b0 : decide (x5_3 < (l0.length : Int)) = false := decide_eq_false c14
           clear c14
           obtain rfl := Option.some.inj H
           go_wp2
           repeat (go_quiet (fail); try go_wp2)
           go_ret
           exact ⟨by first | rfl | (simp; done) | (simp [*]; done), by repeat (first | exact Drawn0.refl _ | apply Drawn0.step)⟩
end Go.Proofs.Ytjfkompfkgjdaaa.PC
end
section
/- A diagram whose points have other names, as the program makes it: plain. -/
namespace Go.Proofs.Ytjfkompfkgjdaaa.PC
open Go.RowKit Go.Proofs.YtjfkompfkgjdaaaW.PrintWords Go.Proofs.YtjfkompfkgjdaaaW.PrintLast Go.Proofs.YtjfkompfkgjdaaaW.PrintMore
/-- the points from i on are told under their other names -/
def plait_rens (g : Nat → Nat) (l : List Int) : Nat → Nat → List Int → List Int
  | 0, _, out => out
  | d + 1, i, out => plait_rens g l d (i + 1) (out.set (g i) (g (rd l (i : Int)).toNat : Int))
def plait_dn (n z : Nat) : Nat := if z < n then z + n else z - n
def plait_lf (n z : Nat) : Nat := if z < n then n - 1 - z else 3 * n - 1 - z
/-- as many points as a diagram has, and no others -/
def plait_okL (l : List Int) : Prop := 0 < l.length ∧ l.length ≤ 1000 ∧ l.length = 2 * (l.length / 2) ∧ ∀ x ∈ l, 0 ≤ x ∧ x < (l.length : Int)
instance plait_okDec (l : List Int) : Decidable (plait_okL l) := by unfold plait_okL; infer_instance
theorem rens_len (g : Nat → Nat) (l : List Int) (d : Nat) : ∀ (i : Nat) (out : List Int), (plait_rens g l d i out).length = out.length := by
  induction d with
  | zero => intro i out; rfl
  | succ d ih => intro i out; simp only [plait_rens]; rw [ih, List.length_set]
end Go.Proofs.Ytjfkompfkgjdaaa.PC
end
section
/- A diagram turned: the walks of down, left and renamed. -/
namespace Go.Proofs.Ytjfkompfkgjdaaa.PC
open Go.RowKit Go.Proofs.YtjfkompfkgjdaaaW.PrintWords Go.Proofs.YtjfkompfkgjdaaaW.PrintLast Go.Proofs.YtjfkompfkgjdaaaW.PrintMore
theorem wr64 {x : Int} (h : -9223372036854775808 ≤ x ∧ x ≤ 9223372036854775807) : wrap64 x = x := by unfold wrap64; omega
theorem down_arith {n p : Nat} (h0 : 0 < n) (hn : n ≤ 500) (hp : p < 2 * n) : Int.tmod (wrap64 ((p : Int) + (n : Int))) (2 * (n : Int)) = (plait_dn n p : Int) := by
  rw [wr64 (by omega), Int.tmod_eq_emod_of_nonneg (by omega)]
  unfold plait_dn
  by_cases c : p < n
  · rw [if_pos c, Int.emod_eq_of_lt (by omega) (by omega)]; omega
  · rw [if_neg c, show (p : Int) + (n : Int) = ((p - n : Nat) : Int) + (2 * (n : Int)) * 1 by omega, Int.add_mul_emod_self_left, Int.emod_eq_of_lt (by omega) (by omega)]
theorem down_walk (A0 : Option Addr) (c0 n p : Nat) (w : World) (h0 : 0 < n) (hn : n ≤ 500) (hp : p < 2 * n) :
    Calls Try.prog 67 #[.slice A0 (2 * n) c0, .int .i64 (p : Int)] w fun e w' => e = .returned (.int .i64 (plait_dn n p : Int)) ∧ Drawn0 w w' := by
  have hsz := size_same A0 c0 (2 * n) n
  have HSZ := Lib.hid hsz
  have HE := Lib.hid (down_arith h0 hn hp)
  have HN := Lib.hid hn
  clear hsz hn hp
  have z1 : (((2 * n : Nat) : Int) == 0) = false := beq_eq_false_iff_ne.mpr (by omega)
  have z2 : ¬ (((2 * n : Nat) : Int) = 0) := by omega
  go_enter Try.func67, Try.ntmps67
  go_wp2_with (first | (go_at_call 72; refine (HSZ.out _ rfl (by have := HN.out; omega)).mono ?_; rintro e w' ⟨rfl, rfl⟩))
  go_ret
  exact ⟨congrArg (fun z => Ending.returned (.int .i64 z)) HE.out, Drawn0.refl _⟩
theorem left_arith {n p : Nat} (h0 : 0 < n) (hn : n ≤ 500) (hp : p < 2 * n) : wrap64 (wrap64 (wrap64 (wrap64 (wrap64 ((p : Int) / (n : Int)) * (n : Int)) + (n : Int)) - 1) - (p : Int) % (n : Int)) = (plait_lf n p : Int) := by
  have ed : (p : Int) / (n : Int) = ((p / n : Nat) : Int) := rfl
  have em : (p : Int) % (n : Int) = ((p % n : Nat) : Int) := rfl
  rw [ed, em]
  unfold plait_lf
  by_cases c : p < n
  · rw [if_pos c, Nat.div_eq_of_lt c, Nat.mod_eq_of_lt c, wr64 (x := ((0 : Nat) : Int)) (by omega), show ((0 : Nat) : Int) * (n : Int) = 0 by simp, wr64 (x := (0 : Int)) (by omega), wr64 (x := 0 + (n : Int)) (by omega), wr64 (x := 0 + (n : Int) - 1) (by omega), wr64 (by omega)]
    omega
  · have e1 : p / n = 1 := Nat.div_eq_of_lt_le (by omega) (by omega)
    have e2 : p % n = p - n := by rw [Nat.mod_eq_sub_mod (by omega), Nat.mod_eq_of_lt (by omega)]
    rw [if_neg c, e1, e2, wr64 (x := ((1 : Nat) : Int)) (by omega), show ((1 : Nat) : Int) * (n : Int) = (n : Int) by simp, wr64 (x := (n : Int)) (by omega), wr64 (x := (n : Int) + (n : Int)) (by omega), wr64 (x := (n : Int) + (n : Int) - 1) (by omega), wr64 (by omega)]
    omega
theorem left_walk (A0 : Option Addr) (c0 n p : Nat) (w : World) (h0 : 0 < n) (hn : n ≤ 500) (hp : p < 2 * n) :
    Calls Try.prog 74 #[.slice A0 (2 * n) c0, .int .i64 (p : Int)] w fun e w' => e = .returned (.int .i64 (plait_lf n p : Int)) ∧ Drawn0 w w' := by
  have hsz := size_same A0 c0 (2 * n) n
  have HSZ := Lib.hid hsz
  have HE := Lib.hid (left_arith h0 hn hp)
  have HN := Lib.hid hn
  clear hsz hn hp
  have z1 : ((n : Int) == 0) = false := beq_eq_false_iff_ne.mpr (by omega)
  have z2 : ¬ ((n : Int) = 0) := by omega
  go_enter Try.func74, Try.ntmps74
  go_wp2_with (first | (go_at_call 72; refine (HSZ.out _ rfl (by have := HN.out; omega)).mono ?_; rintro e w' ⟨rfl, rfl⟩))
  go_quiet (fail)
  go_wp2
  go_ret
  exact ⟨congrArg (fun z => Ending.returned (.int .i64 z)) HE.out, ⟨⟨_, rfl⟩⟩⟩
/-- what a function that renames points tells -/
def Nam (f : Nat) (sd : Value) (N : Nat) (g : Nat → Nat) : Prop := ∀ (p : Nat) (w : World), p < N → Calls Try.prog f #[sd, .int .i64 (p : Int)] w fun e w' => e = .returned (.int .i64 (g p : Int)) ∧ Drawn0 w w'
/-- the state of the walk: what lay below is as it was; the diagram that is made -/
structure PN (w0 : World) (N : Nat) (out : List Int) (W : World) : Prop where
  below : Below w0.heap.size w0 W
  fout : W.heap[w0.heap.size]? = some (.cells (nums .i64 out).toArray 3 (0, 0))
  flen : out.length = N
theorem PN.put {w0 W : World} {N : Nat} {out : List Int} (h : PN w0 N out W) (i : Nat) (x : Int) : PN w0 N (out.set i x) (W.setCell ⟨w0.heap.size, i, none⟩ (.int .i64 x)) := by
  refine ⟨h.below.trans ((Only.set W _ i _).below (by omega)), ?_, by rw [List.length_set]; exact h.flen⟩
  rw [heap_set h.fout]
  simp [nums, List.map_set]
theorem PN.cell {w0 W : World} {N : Nat} {out : List Int} (h : PN w0 N out W) (i : Nat) (hi : i < N) : (∃ u, W.cell? ⟨w0.heap.size, i, none⟩ = some u) ∧ W.frozen? ⟨w0.heap.size, i, none⟩ = false := by
  have := h.flen
  have hi' : i < out.length := by omega
  exact ⟨⟨.int .i64 (out[i]), by simp [World.cell?, h.fout, nums, hi']⟩, by simp [World.frozen?, h.fout]⟩
theorem PN.drewN {w0 W : World} {N : Nat} {out : List Int} (h : PN w0 N out W) (k : Nat) : PN w0 N out (W.drewN k) := ⟨⟨h.below.os, h.below.tape, h.below.output, h.below.size, h.below.block⟩, h.fout, h.flen⟩
theorem PN.start (w : World) (N : Nat) : PN w N (List.replicate N 0) (w.alloc (.cells (madeCells #[.int .i64 0] N) 3)) := by
  refine ⟨(Below.refl _ _).alloc (Nat.le_refl _) _, ?_, by simp⟩
  simp only [World.alloc, Array.getElem?_push, made_int]
  rw [if_pos trivial]
set_option maxHeartbeats 2000000 in
theorem ren_walk (f : Nat) (g : Nat → Nat) (hent : ∀ args w, (callFunc f args).run Try.prog w = .ok (.enter f args) w) (A0 : Option Addr) (c0 : Nat) (l0 : List Int) (N : Nat) (w : World) (hr0 : Kd.C (Kd.int .i64) w A0 N l0)
    (hl0 : l0.length = N) (hn : N ≤ 1000) (hok : ∀ i : Nat, i < N → 0 ≤ rd l0 (i : Int) ∧ rd l0 (i : Int) < (N : Int)) (hg : ∀ z, z < N → g z < N) (hnam : Nam f (.slice A0 N c0) N g) (out : List Int) (ho : plait_rens g l0 N 0 (List.replicate N 0) = out) :
    Calls Try.prog 73 #[.slice A0 N c0, .func (.func f) #[] #[]] w fun e w' => e = .returned (.slice (some ⟨w.heap.size, 0, none⟩) N N) ∧ PN w N out w' := by
  have HR0 := Lib.hid hr0
  have HL0 := Lib.hid hl0
  have HO := Lib.hid ho
  have HOK := Lib.hid hok
  have HG := Lib.hid hg
  have HNM := Lib.hid hnam
  have hmk1 := @print_make_of Try.prog 65 3 (.int .i64 0) 8 Try.underlying65 info3 rfl (by decide) N (by omega)
  clear hr0 hl0 ho hok hg hnam
  go_enter Try.func73, Try.ntmps73
  go_wp2
  go_loopw [13] (fun t w' => ∃ (j : Nat) (out1 : List Int), j ≤ N ∧ t = .int .i64 (j : Int) ∧ Hid (plait_rens g l0 (N - j) j out1 = out) ∧ Hid (PN w N out1 w')) (fun t _ => N - (intOf t).toNat)
  case atStart => exact ⟨0, _, Nat.zero_le _, rfl, by rw [Nat.sub_zero]; exact HO, Lib.hid (PN.start w N)⟩
  case round =>
    obtain ⟨j, out1, hj, rfl, HA, HP⟩ := hrel
    obtain ⟨wo, rfl⟩ : ∃ wo : World, wo = wr := ⟨_, rfl⟩
    by_cases hlt : j < N
    · have d1 : decide ((j : Int) < (N : Int)) = true := decide_eq_true (by omega)
      have h := HA.out
      rw [show N - j = (N - (j + 1)) + 1 by omega] at h
      simp only [plait_rens] at h
      obtain ⟨ad, e, hx⟩ := Kd.at_int (Kd.C_below HR0.out HP.out.below) (j : Int) (by omega) (by omega)
      subst e
      rw [Int.toNat_natCast] at hx
      obtain ⟨r1, r2⟩ := HOK.out j hlt
      obtain ⟨q, hq⟩ : ∃ q : Nat, rd l0 (j : Int) = (q : Int) := ⟨(rd l0 (j : Int)).toNat, by omega⟩
      rw [hq] at hx h r2
      rw [Int.toNat_natCast] at h
      have hq2 : q < N := by omega
      have HH := Lib.hid h
      have HLT := Lib.hid hlt
      have HQ2 := Lib.hid hq2
      have g1 := HG.out j hlt
      have g2 : (0 : Int) ≤ (g j : Int) := by omega
      have g3 : (g j : Int) < (N : Int) := by omega
      clear h HA r1 r2 hq hlt hq2
      go_wp2
      refine (HNM.out j _ HLT.out).mono ?_
      rintro e w' ⟨rfl, ⟨nd, rfl⟩⟩
      go_wp2
      refine (HNM.out q _ HQ2.out).mono ?_
      rintro e w' ⟨rfl, ⟨nd2, rfl⟩⟩
      obtain ⟨⟨u1, hu1⟩, hf1⟩ := HP.out.cell (g j) g1
      have HP3 := Lib.hid ((HP.out.drewN (nd + nd2)).put (g j) (g q : Int))
      go_wp2
      go_roundw
      case rel => exact ⟨j + 1, _, by have := HLT.out; omega, by go_num, HH, HP3⟩
      case measure => simp [intOf]; have := HLT.out; omega
    · obtain rfl : j = N := by omega
      have d1 : decide ((j : Int) < (j : Int)) = false := decide_eq_false (by omega)
      have h := HA.out
      rw [Nat.sub_self] at h
      simp only [plait_rens] at h
      subst h
      clear HA
      go_wp2
      go_ret
      exact ⟨rfl, HP.out⟩
theorem R_of_ints' {W : World} {g base : Nat} {xs : List Int} {m : Nat} {ok : Nat → Prop} (h : W.heap[g]? = some (.cells (nums .i64 xs).toArray 3 (0, 0))) (hb : base ≤ g) (hm : xs.length = m) (hl : m ≤ 1000000) (hk : ok g) : Kd.R (Kd.int .i64) 3 W base ok (.slice (some ⟨g, 0, none⟩) m m) xs := by
  subst hm
  exact Kd.R_of_own ⟨by simp [encs], .inr ⟨g, xs.length, _, rfl, hb, h, Nat.le_refl _, by unfold maxLen; omega, by simp [nums], by simp [encs, nums, List.take_of_length_le]⟩⟩ (fun k e => by
    simp only [Value.ownBlock, Option.some.injEq] at e
    subst e
    exact hk)
end Go.Proofs.Ytjfkompfkgjdaaa.PC
end
section
namespace Go.Proofs.Ytjfkompfkgjdaaa.PC
open Go.RowKit Go.Proofs.YtjfkompfkgjdaaaW.PrintWords Go.Proofs.YtjfkompfkgjdaaaW.PrintLast Go.Proofs.YtjfkompfkgjdaaaW.PrintMore
attribute [local go_sem] max2_int min2_int max_two min_two max_three min_three max_four min_four   -- for this text's walks alone
set_option linter.unusedVariables false
set_option linter.unusedSimpArgs false
/-! ### plait_Turned: function 46 -/
def plait_Turned.f (k : Nat) (l0 : List Int) : Option (List Int × List Int × Int) :=
 (plait_of.f k l0).bind fun t => if t = 0 then (if plait_okL l0 then some (plait_rens (plait_dn (l0.length / 2)) l0 l0.length 0 (List.replicate l0.length 0), plait_rens (plait_lf (l0.length / 2)) l0 l0.length 0 (List.replicate l0.length 0), 0) else none) else some ([], [], t)
theorem plait_Turned.mono : ∀ a0 k, LeO (plait_Turned.f k a0) (plait_Turned.f (k + 1) a0) := by
 intro a0 k
 unfold plait_Turned.f
 exact LeO.bind (plait_of.mono a0 k) (fun _ => LeO.refl _)
set_option maxHeartbeats 2000000 in
set_option maxRecDepth 100000 in
theorem plait_Turned.calls (k : Nat) (A0 : Option Addr) (c0 : Nat) (l0 : List Int) (r1 : List Int) (r2 : List Int) (r3 : Int) (w : World) (hr0 : Kd.C (Kd.int .i64) w A0 l0.length l0) (hc0 : l0.length ≤ c0) (h : plait_Turned.f k l0 = some (r1, r2, r3)) :
  Calls Try.prog 46 #[.slice A0 l0.length c0] w fun e w' => ∃ v0_ v1_ : Value, e = .returned (.tuple #[v0_, v1_, .int .i64 r3]) ∧ Kd.R (Kd.int .i64) 3 w' w.heap.size (fun k_ => some k_ ≠ (v1_ : Value).ownBlock) v0_ r1 ∧ Kd.R (Kd.int .i64) 3 w' w.heap.size (fun k_ => some k_ ≠ (v0_ : Value).ownBlock) v1_ r2 ∧ Below w.heap.size w w' := by
 unfold plait_Turned.f at h
 obtain ⟨t, ht, h1⟩ := Option.bind_eq_some_iff.1 h
 clear h
 have h := h1
 clear h1
 have HR := Lib.hid hr0
 have HC := Lib.hid hc0
 have HT := Lib.hid ht
 clear hr0 hc0 ht
 by_cases z : t = 0
 ·subst z
  rw [if_pos rfl] at h
  by_cases ok : plait_okL l0
  ·rw [if_pos ok] at h
   obtain ⟨p0, p1, p2, p3⟩ := ok
   simp only [Option.some.injEq, Prod.mk.injEq] at h
   obtain ⟨rfl, rfl, rfl⟩ := h
   obtain ⟨n, hn⟩ : ∃ n, l0.length = 2 * n := ⟨l0.length / 2, p2⟩
   have HND : Hid (Nam 67 (.slice A0 l0.length c0) l0.length (plait_dn (l0.length / 2))) := by
    rw [hn, show 2 * n / 2 = n by omega]
    exact fun p w hp => down_walk A0 c0 n p w (by omega) (by omega) hp
   have HNL : Hid (Nam 74 (.slice A0 l0.length c0) l0.length (plait_lf (l0.length / 2))) := by
    rw [hn, show 2 * n / 2 = n by omega]
    exact fun p w hp => left_walk A0 c0 n p w (by omega) (by omega) hp
   have HGD : Hid (∀ z, z < l0.length → plait_dn (l0.length / 2) z < l0.length) := fun z hz => by unfold plait_dn; split <;> omega
   have HGL : Hid (∀ z, z < l0.length → plait_lf (l0.length / 2) z < l0.length) := fun z hz => by unfold plait_lf; split <;> omega
   have HOK : Hid (∀ i : Nat, i < l0.length → 0 ≤ rd l0 (i : Int) ∧ rd l0 (i : Int) < (l0.length : Int)) := fun i hi => by
    have e2 : rd l0 (i : Int) = l0[i] := by
     unfold rd
     rw [Int.toNat_natCast, List.getD_eq_getElem?_getD, List.getElem?_eq_getElem hi]; rfl
    rw [e2]
    exact p3 _ (List.getElem_mem hi)
   have HP1 := Lib.hid p1
   clear p0 p1 p2 p3 hn
   have hv : ∀ s : Value, plait_of.val 0 s = s := fun s => if_pos rfl
   have hz : ((0 : Int) != 0) = false := rfl
   go_enter Try.func46, Try.ntmps46
   go_wp2_with (first | (go_at_call 54; refine (plait_of.calls k A0 c0 l0 0 _ HR.out HC.out HT.out).mono ?_; rintro e w1 ⟨rfl, hb1⟩; rw [hv]; have HB1 := Lib.hid hb1; clear hb1))
   clear hv
   refine (ren_walk 67 _ (Go.Proofs.enters_of Try.func67 (by kernel_rfl) rfl) A0 c0 l0 l0.length w1 (Kd.C_below HR.out HB1.out) rfl HP1.out HOK.out HGD.out HND.out _ rfl).mono ?_
   rintro e w2 ⟨rfl, hp2⟩
   have HP2 := Lib.hid hp2
   clear hp2
   go_wp2_with (fail)
   refine (ren_walk 74 _ (Go.Proofs.enters_of Try.func74 (by kernel_rfl) rfl) A0 c0 l0 l0.length w2 (Kd.C_below (Kd.C_below HR.out HB1.out) HP2.out.below) rfl HP1.out HOK.out HGL.out HNL.out _ rfl).mono ?_
   rintro e w3 ⟨rfl, hp3⟩
   have HP3 := Lib.hid hp3
   clear hp3
   go_wp2
   go_ret3
   have k1 := block_lt' HP2.out.fout
   have k2 := HB1.out.size
   have f1 := (HP3.out.below.block _ k1).trans HP2.out.fout
   have e1 : ∀ g, (plait_rens g l0 l0.length 0 (List.replicate l0.length 0)).length = l0.length := fun g => by rw [rens_len, List.length_replicate]
   have lim := HP1.out
   refine ⟨_, _, rfl, R_of_ints' f1 k2 (e1 _) (by omega) ?_, R_of_ints' HP3.out.fout (by omega) (e1 _) (by omega) ?_, below_step (below_step HB1.out HP2.out.below) HP3.out.below⟩
   ·intro e; simp [Value.ownBlock] at e; omega
   ·intro e; simp [Value.ownBlock] at e; omega
  ·rw [if_neg ok] at h; cases h
 ·rw [if_neg z] at h
  simp only [Option.some.injEq, Prod.mk.injEq] at h
  obtain ⟨rfl, rfl, rfl⟩ := h
  have b1 : (t != 0) = true := bne_iff_ne.mpr z
  go_enter Try.func46, Try.ntmps46
  go_wp2_with (first | (go_at_call 54; refine (plait_of.calls k A0 c0 l0 t _ HR.out HC.out HT.out).mono ?_; rintro e w1 ⟨rfl, hb1⟩; have HB1 := Lib.hid hb1; clear hb1))
  go_ret3
  exact ⟨_, _, rfl, Kd.R_nil .., Kd.R_nil .., HB1.out⟩
end Go.Proofs.Ytjfkompfkgjdaaa.PC
end
section
namespace Go.Proofs.Ytjfkompfkgjdaaa.PC
open Go.RowKit Go.Proofs.YtjfkompfkgjdaaaW.PrintWords Go.Proofs.YtjfkompfkgjdaaaW.PrintLast Go.Proofs.YtjfkompfkgjdaaaW.PrintMore
attribute [local go_sem] max2_int min2_int max_two min_two max_three min_three max_four min_four   -- for this text's walks alone
set_option linter.unusedVariables false
set_option linter.unusedSimpArgs false
/-! ### plait_diagram_height: function 78 -/
mutual
def plait_diagram_height.l0 : Nat → List Int → Int → Int → Int → Int → Option (Int)
 | 0, _, _, _, _, _ => none
 | k + 1, x0, x3, x4, x12, x13 => if x13 < x12 then (plait_diagram_height.l1 k x0 x3 x4 x13 0 x12 x13 x0 (x0.length : Int) 0) else (some (wrap64 (Int.tdiv x4 2)))
def plait_diagram_height.l1 : Nat → List Int → Int → Int → Int → Int → Int → Int → List Int → Int → Int → Option (Int)
 | 0, _, _, _, _, _, _, _, _, _, _ => none
 | k + 1, x0, x3, x4, x5, x6, x12, x13, x16, x17, x18 => if x18 < x17 then (if 0 ≤ x18 then (if x18 < (x16.length : Int) then (if x18 < (rd x16 x18) then (if x3 = 0 then (none) else (if ((decide ((Int.tmod x18 x3) ≤ x5)) != (decide ((Int.tmod (rd x16 x18) x3) ≤ x5))) = true then (plait_diagram_height.l1 k x0 x3 x4 x5 (wrap64 (x6 + 1)) x12 x13 x16 x17 (wrap64 (x18 + 1))) else (plait_diagram_height.l1 k x0 x3 x4 x5 x6 x12 x13 x16 x17 (wrap64 (x18 + 1))))) else (plait_diagram_height.l1 k x0 x3 x4 x5 x6 x12 x13 x16 x17 (wrap64 (x18 + 1)))) else (none)) else (none)) else (plait_diagram_height.l0 k x0 x3 (wrap64 (x4 + x6)) x12 (wrap64 (x13 + 1)))
end
def plait_diagram_height.f (k : Nat) (l0 : List Int) : Option (Int) := (plait_diagram_size.f l0).bind fun t139 => (plait_diagram_height.l0 k l0 t139 0 (wrap64 (t139 - 1)) 0)
theorem plait_diagram_height.mono_l : ∀ k, (∀ y0 y1 y2 y3 y4, LeO (plait_diagram_height.l0 k y0 y1 y2 y3 y4) (plait_diagram_height.l0 (k + 1) y0 y1 y2 y3 y4)) ∧ (∀ y0 y1 y2 y3 y4 y5 y6 y7 y8 y9, LeO (plait_diagram_height.l1 k y0 y1 y2 y3 y4 y5 y6 y7 y8 y9) (plait_diagram_height.l1 (k + 1) y0 y1 y2 y3 y4 y5 y6 y7 y8 y9))
 | 0 => ⟨fun _ _ _ _ _ r h => by simp [plait_diagram_height.l0] at h, fun _ _ _ _ _ _ _ _ _ _ r h => by simp [plait_diagram_height.l1] at h⟩
 | k + 1 => by
  obtain ⟨ih0, ih1⟩ := plait_diagram_height.mono_l k
  refine ⟨?_, ?_⟩
  ·intro y0 y1 y2 y3 y4
   unfold plait_diagram_height.l0
   repeat' first
   | (with_reducible exact ih0 _ _ _ _ _)
   | (with_reducible exact ih1 _ _ _ _ _ _ _ _ _ _)
   | (with_reducible exact LeO.refl _)
   | (with_reducible exact LeO.none _)
   | (with_reducible refine LeO.ite ?_ ?_)
   | (with_reducible refine LeO.bind ?_ (fun _ => ?_))
   | exact ih0 _ _ _ _ _
   | exact ih1 _ _ _ _ _ _ _ _ _ _
   | exact LeO.none _
   | refine LeO.ite ?_ ?_
   | refine LeO.bind ?_ (fun _ => ?_)
  ·intro y0 y1 y2 y3 y4 y5 y6 y7 y8 y9
   unfold plait_diagram_height.l1
   repeat' first
   | (with_reducible exact ih0 _ _ _ _ _)
   | (with_reducible exact ih1 _ _ _ _ _ _ _ _ _ _)
   | (with_reducible exact LeO.refl _)
   | (with_reducible exact LeO.none _)
   | (with_reducible refine LeO.ite ?_ ?_)
   | (with_reducible refine LeO.bind ?_ (fun _ => ?_))
   | exact ih0 _ _ _ _ _
   | exact ih1 _ _ _ _ _ _ _ _ _ _
   | exact LeO.none _
   | refine LeO.ite ?_ ?_
   | refine LeO.bind ?_ (fun _ => ?_)
theorem plait_diagram_height.mono : ∀ a0 k, LeO (plait_diagram_height.f k a0) (plait_diagram_height.f (k + 1) a0) := by
 intro a0 k
 obtain ⟨ih0, ih1⟩ := plait_diagram_height.mono_l k
 unfold plait_diagram_height.f
 repeat' first
   | (with_reducible exact ih0 _ _ _ _ _)
   | (with_reducible exact ih1 _ _ _ _ _ _ _ _ _ _)
   | (with_reducible exact LeO.refl _)
   | (with_reducible exact LeO.none _)
   | (with_reducible refine LeO.ite ?_ ?_)
   | (with_reducible refine LeO.bind ?_ (fun _ => ?_))
   | exact ih0 _ _ _ _ _
   | exact ih1 _ _ _ _ _ _ _ _ _ _
   | exact LeO.none _
   | refine LeO.ite ?_ ?_
   | refine LeO.bind ?_ (fun _ => ?_)
set_option maxHeartbeats 8000000 in
set_option maxRecDepth 100000 in
theorem plait_diagram_height.calls (k : Nat) (A0 : Option Addr) (c0 : Nat) (l0 : List Int) (r : Int) (w : World) (hr0 : Kd.C (Kd.int .i64) w A0 l0.length l0) (hc0 : l0.length ≤ c0) (h : plait_diagram_height.f k l0 = some r) :
  Calls Try.prog 78 #[.slice A0 l0.length c0] w fun e w' => e = .returned (.int .i64 r) ∧ Drawn0 w w' := by
 have HR0 := Aside0.mk hr0
 have HC0 := Aside0.mk hc0
 clear hr0 hc0
 have H : ((plait_diagram_size.f l0).bind fun t139 => (plait_diagram_height.l0 k l0 t139 0 (wrap64 (t139 - 1)) 0)) = some r := h
 clear h
 replace H := Option.bind_eq_some_iff.mp H
 obtain ⟨t139, A20, H⟩ := H
 replace H : (plait_diagram_height.l0 k l0 t139 0 (wrap64 (t139 - 1)) 0) = some r := H
 have A2 := Aside0.mk A20
 clear A20
 have H' := Aside0.mk H
 clear H
 go_enter Try.func78, Try.ntmps78
 go_wp2_with (first | (go_at_call 72; (with_reducible refine (plait_diagram_size.calls _ _ l0 t139 _ ?side1 ?side2 A2.out).mono ?_); (case side1 => repeat (first | exact HR0.out | (with_reducible refine Kd.C_alloc ?_ _) | (with_reducible refine Kd.C_drewN ?_ _) | (with_reducible refine Kd.C_drew ?_))); (case side2 => exact HC0.out); rintro e w' ⟨rfl, ⟨nd, rfl⟩⟩; (try first | exact ⟨rfl, _, World.drewN_drewN _ _ _⟩ | exact ⟨rfl, _, Eq.trans (World.drewN_drewN _ _ _) (congrArg (World.drewN _) (Nat.add_assoc _ _ _))⟩)))
 repeat (go_quiet (first | (go_at_call 72; (with_reducible refine (plait_diagram_size.calls _ _ l0 t139 _ ?side1 ?side2 A2.out).mono ?_); (case side1 => repeat (first | exact HR0.out | (with_reducible refine Kd.C_alloc ?_ _) | (with_reducible refine Kd.C_drewN ?_ _) | (with_reducible refine Kd.C_drew ?_))); (case side2 => exact HC0.out); rintro e w' ⟨rfl, ⟨nd, rfl⟩⟩; (try first | exact ⟨rfl, _, World.drewN_drewN _ _ _⟩ | exact ⟨rfl, _, Eq.trans (World.drewN_drewN _ _ _) (congrArg (World.drewN _) (Nat.add_assoc _ _ _))⟩))); try go_wp2_with (first | (go_at_call 72; (with_reducible refine (plait_diagram_size.calls _ _ l0 t139 _ ?side1 ?side2 A2.out).mono ?_); (case side1 => repeat (first | exact HR0.out | (with_reducible refine Kd.C_alloc ?_ _) | (with_reducible refine Kd.C_drewN ?_ _) | (with_reducible refine Kd.C_drew ?_))); (case side2 => exact HC0.out); rintro e w' ⟨rfl, ⟨nd, rfl⟩⟩; (try first | exact ⟨rfl, _, World.drewN_drewN _ _ _⟩ | exact ⟨rfl, _, Eq.trans (World.drewN_drewN _ _ _) (congrArg (World.drewN _) (Nat.add_assoc _ _ _))⟩))))
 go_loopg [4, 13] k (fun kq v4 v13 w' => ∃ (x4_1 : Int) (x13_1 : Int), v4 = .int .i64 x4_1 ∧ v13 = .int .i64 x13_1 ∧ Aside0 (plait_diagram_height.l0 kq l0 t139 x4_1 (wrap64 (t139 - 1)) x13_1 = some r) ∧ Aside0 (kq ≤ k) ∧ Drawn0 w w')
 case atStart => exact ⟨(0), (0), (by first | rfl | (simp; done) | (simp [*]; done)), (by first | rfl | (simp; done) | (simp [*]; done)), H', ⟨Nat.le_refl _⟩, by repeat (first | exact Drawn0.refl _ | apply Drawn0.step)⟩
 case round =>
  clear H'
  try clear p2
  obtain ⟨x4_1, x13_1, rfl, rfl, HA, HK1, ⟨m1, rfl⟩⟩ := hrel
  cases gk with
  | zero => exact absurd HA.out (by simp [plait_diagram_height.l0])
  | succ k1 =>
   have H := HA.out
   clear HA
   simp only [plait_diagram_height.l0] at H
   by_cases c3 : x13_1 < (wrap64 (t139 - 1))
   ·rw [if_pos c3] at H
    have c3b0 : decide (x13_1 < (wrap64 (t139 - 1))) = true := decide_eq_true c3
    clear c3
    have H' := Aside0.mk H
    clear H
    go_wp2
    repeat (go_quiet (fail); try go_wp2)
    go_loopg [6, 18] k1 (fun kq v6 v18 w' => ∃ (x6_2 : Int) (x18_2 : Int), v6 = .int .i64 x6_2 ∧ v18 = .int .i64 x18_2 ∧ Aside0 (plait_diagram_height.l1 kq l0 t139 x4_1 x13_1 x6_2 (wrap64 (t139 - 1)) x13_1 l0 (l0.length : Int) x18_2 = some r) ∧ Aside0 (kq ≤ k1) ∧ Drawn0 w w')
    case atStart => exact ⟨(0), (0), (by first | rfl | (simp; done) | (simp [*]; done)), (by first | rfl | (simp; done) | (simp [*]; done)), H', ⟨Nat.le_refl _⟩, by repeat (first | exact Drawn0.refl _ | apply Drawn0.step)⟩
    case round =>
     clear H'
     try clear p2
     try clear c3
     try clear c3b0
     try clear p2
     obtain ⟨x6_2, x18_2, rfl, rfl, HA, HK2, ⟨m2, rfl⟩⟩ := hrel
     cases gk with
     | zero => exact absurd HA.out (by simp [plait_diagram_height.l1])
     | succ k2 =>
      have H := HA.out
      clear HA
      simp only [plait_diagram_height.l1] at H
      by_cases c4 : x18_2 < (l0.length : Int)
      ·rw [if_pos c4] at H
       have c4b0 : decide (x18_2 < (l0.length : Int)) = true := decide_eq_true c4
       clear c4
       by_cases c5 : 0 ≤ x18_2
       ·rw [if_pos c5] at H
        have c5b0 : decide (0 ≤ x18_2) = true := decide_eq_true c5
        clear c5
        by_cases c6 : x18_2 < (l0.length : Int)
        ·rw [if_pos c6] at H
         have c6b0 : decide (x18_2 < (l0.length : Int)) = true := decide_eq_true c6
         clear c6
         by_cases c7 : x18_2 < (rd l0 x18_2)
         ·rw [if_pos c7] at H
          have c7b0 : decide (x18_2 < (rd l0 x18_2)) = true := decide_eq_true c7
          clear c7
          by_cases c8 : t139 = 0
          ·rw [if_pos c8] at H
           exact absurd H (by simp)
          ·rw [if_neg c8] at H
           have c8b0 : (t139 == 0) = false := beq_eq_false_iff_ne.mpr c8
           have c8b1 : (t139 != 0) = true := bne_iff_ne.mpr c8
           by_cases c9 : ((decide ((Int.tmod x18_2 t139) ≤ x13_1)) != (decide ((Int.tmod (rd l0 x18_2) t139) ≤ x13_1))) = true
           ·rw [if_pos c9] at H
            have c9b0 : ((decide ((Int.tmod x18_2 t139) ≤ x13_1)) != (decide ((Int.tmod (rd l0 x18_2) t139) ≤ x13_1))) = true := c9
            (try (have c9b1 : decide ((decide ((Int.tmod x18_2 t139) ≤ x13_1)) = (decide ((Int.tmod (rd l0 x18_2) t139) ≤ x13_1))) = false := by simpa using c9))
            (try (have c9b2 : ((decide ((Int.tmod x18_2 t139) ≤ x13_1)) == (decide ((Int.tmod (rd l0 x18_2) t139) ≤ x13_1))) = false := by simpa using c9))
            (try (have c9b3 : ¬ ((decide ((Int.tmod x18_2 t139) ≤ x13_1)) = (decide ((Int.tmod (rd l0 x18_2) t139) ≤ x13_1))) := by simpa using c9))
            clear c9
            have H' := Aside0.mk H
            clear H
            have p140 : 0 ≤ (x18_2 : Int) := of_decide_eq_true (by first | (with_reducible assumption) | assumption)
            have q140 : x18_2 < (l0.length : Int) := of_decide_eq_true (by first | (with_reducible assumption) | assumption)
            obtain ⟨ad140, e140, hx140_0⟩ := Kd.at_int HR0.out x18_2 p140 q140
            cases e140
            replace p140 := eq_true p140
            replace q140 := eq_true q140
            go_wp2
            repeat (go_quiet (fail); try go_wp2)
            go_roundg k2
            case measure => have := HK1.out; have := HK2.out; omega
            case rel => exact ⟨(wrap64 (x6_2 + 1)), (wrap64 (x18_2 + 1)), (by first | rfl | (simp; done) | (simp [*]; done)), (by first | rfl | (simp; done) | (simp [*]; done)), H', ⟨by have := HK1.out; have := HK2.out; omega⟩, by repeat (first | exact Drawn0.refl _ | apply Drawn0.step)⟩
           ·rw [if_neg c9] at H
            have c9b0 : ((decide ((Int.tmod x18_2 t139) ≤ x13_1)) != (decide ((Int.tmod (rd l0 x18_2) t139) ≤ x13_1))) = false := by simpa using c9
            (try (have c9b1 : decide ((decide ((Int.tmod x18_2 t139) ≤ x13_1)) = (decide ((Int.tmod (rd l0 x18_2) t139) ≤ x13_1))) = true := by simpa using c9))
            (try (have c9b2 : ((decide ((Int.tmod x18_2 t139) ≤ x13_1)) == (decide ((Int.tmod (rd l0 x18_2) t139) ≤ x13_1))) = true := by simpa using c9))
            clear c9
            have H' := Aside0.mk H
            clear H
            have p140 : 0 ≤ (x18_2 : Int) := of_decide_eq_true (by first | (with_reducible assumption) | assumption)
            have q140 : x18_2 < (l0.length : Int) := of_decide_eq_true (by first | (with_reducible assumption) | assumption)
            obtain ⟨ad140, e140, hx140_0⟩ := Kd.at_int HR0.out x18_2 p140 q140
            cases e140
            replace p140 := eq_true p140
            replace q140 := eq_true q140
            go_wp2
            repeat (go_quiet (fail); try go_wp2)
            go_roundg k2
            case measure => have := HK1.out; have := HK2.out; omega
            case rel => exact ⟨(x6_2), (wrap64 (x18_2 + 1)), (by first | rfl | (simp; done) | (simp [*]; done)), (by first | rfl | (simp; done) | (simp [*]; done)), H', ⟨by have := HK1.out; have := HK2.out; omega⟩, by repeat (first | exact Drawn0.refl _ | apply Drawn0.step)⟩
         ·rw [if_neg c7] at H
          have c7b0 : decide (x18_2 < (rd l0 x18_2)) = false := decide_eq_false c7
          clear c7
          have H' := Aside0.mk H
          clear H
          have p140 : 0 ≤ (x18_2 : Int) := of_decide_eq_true (by first | (with_reducible assumption) | assumption)
          have q140 : x18_2 < (l0.length : Int) := of_decide_eq_true (by first | (with_reducible assumption) | assumption)
          obtain ⟨ad140, e140, hx140_0⟩ := Kd.at_int HR0.out x18_2 p140 q140
          cases e140
          replace p140 := eq_true p140
          replace q140 := eq_true q140
          go_wp2
          repeat (go_quiet (fail); try go_wp2)
          go_roundg k2
          case measure => have := HK1.out; have := HK2.out; omega
          case rel => exact ⟨(x6_2), (wrap64 (x18_2 + 1)), (by first | rfl | (simp; done) | (simp [*]; done)), (by first | rfl | (simp; done) | (simp [*]; done)), H', ⟨by have := HK1.out; have := HK2.out; omega⟩, by repeat (first | exact Drawn0.refl _ | apply Drawn0.step)⟩
        ·rw [if_neg c6] at H
         exact absurd H (by simp)
       ·rw [if_neg c5] at H
        exact absurd H (by simp)
      ·rw [if_neg c4] at H
       have c4b0 : decide (x18_2 < (l0.length : Int)) = false := decide_eq_false c4
       clear c4
       have H' := Aside0.mk H
       clear H
       go_wp2
       repeat (go_quiet (fail); try go_wp2)
       go_roundg k2
       case measure => have := HK1.out; have := HK2.out; omega
       case rel => exact ⟨(wrap64 (x4_1 + x6_2)), (wrap64 (x13_1 + 1)), (by first | rfl | (simp; done) | (simp [*]; done)), (by first | rfl | (simp; done) | (simp [*]; done)), H', ⟨by have := HK1.out; have := HK2.out; omega⟩, by repeat (first | exact Drawn0.refl _ | apply Drawn0.step)⟩
   ·rw [if_neg c3] at H
    have c3b0 : decide (x13_1 < (wrap64 (t139 - 1))) = false := decide_eq_false c3
    clear c3
    obtain rfl := Option.some.inj H
    go_wp2
    repeat (go_quiet (fail); try go_wp2)
    go_ret
    exact ⟨by first | rfl | (simp; done) | (simp [*]; done), by repeat (first | exact Drawn0.refl _ | apply Drawn0.step)⟩
/-! ### plait_diagram_int_69: function 69 -/
def plait_diagram_int_69.l0 : Nat → List Int → List Int → Int → Int → Option (Bool)
 | 0, _, _, _, _ => none
 | k + 1, x0, x1, x12, x13 => if x13 < x12 then (if 0 ≤ x13 then (if x13 < (x0.length : Int) then (if x13 < (x1.length : Int) then (if (rd x0 x13) = (rd x1 x13) then (plait_diagram_int_69.l0 k x0 x1 x12 (wrap64 (x13 + 1))) else (some false)) else (none)) else (none)) else (none)) else (some true)
def plait_diagram_int_69.f (k : Nat) (l0 : List Int) (l1 : List Int) : Option (Bool) := if (l0.length : Int) = (l1.length : Int) then (plait_diagram_int_69.l0 k l0 l1 (l0.length : Int) 0) else (some false)
theorem plait_diagram_int_69.mono_l : ∀ k, (∀ y0 y1 y2 y3, LeO (plait_diagram_int_69.l0 k y0 y1 y2 y3) (plait_diagram_int_69.l0 (k + 1) y0 y1 y2 y3))
 | 0 => fun _ _ _ _ r h => by simp [plait_diagram_int_69.l0] at h
 | k + 1 => by
  have ih0 := plait_diagram_int_69.mono_l k
  ·intro y0 y1 y2 y3
   unfold plait_diagram_int_69.l0
   repeat' first
   | (with_reducible exact ih0 _ _ _ _)
   | (with_reducible exact LeO.refl _)
   | (with_reducible exact LeO.none _)
   | (with_reducible refine LeO.ite ?_ ?_)
   | (with_reducible refine LeO.bind ?_ (fun _ => ?_))
   | exact ih0 _ _ _ _
   | exact LeO.none _
   | refine LeO.ite ?_ ?_
   | refine LeO.bind ?_ (fun _ => ?_)
theorem plait_diagram_int_69.mono : ∀ a0 a1 k, LeO (plait_diagram_int_69.f k a0 a1) (plait_diagram_int_69.f (k + 1) a0 a1) := by
 intro a0 a1 k
 have ih0 := plait_diagram_int_69.mono_l k
 unfold plait_diagram_int_69.f
 repeat' first
   | (with_reducible exact ih0 _ _ _ _)
   | (with_reducible exact LeO.refl _)
   | (with_reducible exact LeO.none _)
   | (with_reducible refine LeO.ite ?_ ?_)
   | (with_reducible refine LeO.bind ?_ (fun _ => ?_))
   | exact ih0 _ _ _ _
   | exact LeO.none _
   | refine LeO.ite ?_ ?_
   | refine LeO.bind ?_ (fun _ => ?_)
set_option maxHeartbeats 8000000 in
set_option maxRecDepth 100000 in
theorem plait_diagram_int_69.calls (k : Nat) (A0 : Option Addr) (c0 : Nat) (l0 : List Int) (A1 : Option Addr) (c1 : Nat) (l1 : List Int) (r : Bool) (w : World) (hr0 : Kd.C (Kd.int .i64) w A0 l0.length l0) (hc0 : l0.length ≤ c0) (hr1 : Kd.C (Kd.int .i64) w A1 l1.length l1) (hc1 : l1.length ≤ c1) (h : plait_diagram_int_69.f k l0 l1 = some r) :
  Calls Try.prog 69 #[.slice A0 l0.length c0, .slice A1 l1.length c1] w fun e w' => e = .returned (.bool r) ∧ Drawn0 w w' := by
 have HR0 := Aside0.mk hr0
 have HC0 := Aside0.mk hc0
 clear hr0 hc0
 have HR1 := Aside0.mk hr1
 have HC1 := Aside0.mk hc1
 clear hr1 hc1
 have H : (if (l0.length : Int) = (l1.length : Int) then (plait_diagram_int_69.l0 k l0 l1 (l0.length : Int) 0) else (some false)) = some r := h
 clear h
 by_cases c3 : (l0.length : Int) = (l1.length : Int)
 ·rw [if_pos c3] at H
  have c3b0 : ((l0.length : Int) == (l1.length : Int)) = true := beq_iff_eq.mpr c3
  have c3b1 : ((l0.length : Int) != (l1.length : Int)) = false := bne_eq_false_iff_eq.mpr c3
  have c3b2 : (l0.length == l1.length) = true := by first | simpa using c3 | (simp at c3 ⊢; omega)
  clear c3
  have H' := Aside0.mk H
  clear H
  go_enter Try.func69, Try.ntmps69
  go_wp2
  repeat (go_quiet (fail); try go_wp2)
  go_loopg [13] k (fun kq v13 w' => ∃ (x13_1 : Int), v13 = .int .i64 x13_1 ∧ Aside0 (plait_diagram_int_69.l0 kq l0 l1 (l0.length : Int) x13_1 = some r) ∧ Aside0 (kq ≤ k) ∧ Drawn0 w w')
  case atStart => exact ⟨(0), (by first | rfl | (simp; done) | (simp [*]; done)), H', ⟨Nat.le_refl _⟩, by repeat (first | exact Drawn0.refl _ | apply Drawn0.step)⟩
  case round =>
   clear H'
   try clear c1
   try clear p2
   try clear c3
   try clear c3b0
   try clear c3b1
   try clear c3b2
   obtain ⟨x13_1, rfl, HA, HK1, ⟨m1, rfl⟩⟩ := hrel
   cases gk with
   | zero => exact absurd HA.out (by simp [plait_diagram_int_69.l0])
   | succ k1 =>
    have H := HA.out
    clear HA
    simp only [plait_diagram_int_69.l0] at H
    by_cases c4 : x13_1 < (l0.length : Int)
    ·rw [if_pos c4] at H
     have c4b0 : decide (x13_1 < (l0.length : Int)) = true := decide_eq_true c4
     clear c4
     by_cases c5 : 0 ≤ x13_1
     ·rw [if_pos c5] at H
      have c5b0 : decide (0 ≤ x13_1) = true := decide_eq_true c5
      clear c5
      by_cases c6 : x13_1 < (l0.length : Int)
      ·rw [if_pos c6] at H
       have c6b0 : decide (x13_1 < (l0.length : Int)) = true := decide_eq_true c6
       clear c6
       by_cases c7 : x13_1 < (l1.length : Int)
       ·rw [if_pos c7] at H
        have c7b0 : decide (x13_1 < (l1.length : Int)) = true := decide_eq_true c7
        clear c7
        by_cases c8 : (rd l0 x13_1) = (rd l1 x13_1)
        ·rw [if_pos c8] at H
         have c8b0 : ((rd l0 x13_1) == (rd l1 x13_1)) = true := beq_iff_eq.mpr c8
         have c8b1 : ((rd l0 x13_1) != (rd l1 x13_1)) = false := bne_eq_false_iff_eq.mpr c8
         clear c8
         have H' := Aside0.mk H
         clear H
         have p144 : 0 ≤ (x13_1 : Int) := of_decide_eq_true (by first | (with_reducible assumption) | assumption)
         have q144 : x13_1 < (l0.length : Int) := of_decide_eq_true (by first | (with_reducible assumption) | assumption)
         obtain ⟨ad144, e144, hx144_0⟩ := Kd.at_int HR0.out x13_1 p144 q144
         cases e144
         replace p144 := eq_true p144
         replace q144 := eq_true q144
         have p145 : 0 ≤ (x13_1 : Int) := of_decide_eq_true (by first | (with_reducible assumption) | assumption)
         have q145 : x13_1 < (l1.length : Int) := of_decide_eq_true (by first | (with_reducible assumption) | assumption)
         obtain ⟨ad145, e145, hx145_0⟩ := Kd.at_int HR1.out x13_1 p145 q145
         cases e145
         replace p145 := eq_true p145
         replace q145 := eq_true q145
         go_wp2
         repeat (go_quiet (fail); try go_wp2)
         go_roundg k1
         case measure => have := HK1.out; omega
         case rel => exact ⟨(wrap64 (x13_1 + 1)), (by first | rfl | (simp; done) | (simp [*]; done)), H', ⟨by have := HK1.out; omega⟩, by repeat (first | exact Drawn0.refl _ | apply Drawn0.step)⟩
        ·rw [if_neg c8] at H
         have c8b0 : ((rd l0 x13_1) == (rd l1 x13_1)) = false := beq_eq_false_iff_ne.mpr c8
         have c8b1 : ((rd l0 x13_1) != (rd l1 x13_1)) = true := bne_iff_ne.mpr c8
         obtain rfl := Option.some.inj H
         have p144 : 0 ≤ (x13_1 : Int) := of_decide_eq_true (by first | (with_reducible assumption) | assumption)
         have q144 : x13_1 < (l0.length : Int) := of_decide_eq_true (by first | (with_reducible assumption) | assumption)
         obtain ⟨ad144, e144, hx144_0⟩ := Kd.at_int HR0.out x13_1 p144 q144
         cases e144
         replace p144 := eq_true p144
         replace q144 := eq_true q144
         have p145 : 0 ≤ (x13_1 : Int) := of_decide_eq_true (by first | (with_reducible assumption) | assumption)
         have q145 : x13_1 < (l1.length : Int) := of_decide_eq_true (by first | (with_reducible assumption) | assumption)
         obtain ⟨ad145, e145, hx145_0⟩ := Kd.at_int HR1.out x13_1 p145 q145
         cases e145
         replace p145 := eq_true p145
         replace q145 := eq_true q145
         go_wp2
         repeat (go_quiet (fail); try go_wp2)
         go_ret
         exact ⟨by first | rfl | (simp; done) | (simp [*]; done), by repeat (first | exact Drawn0.refl _ | apply Drawn0.step)⟩
       ·rw [if_neg c7] at H
        exact absurd H (by simp)
      ·rw [if_neg c6] at H
       exact absurd H (by simp)
     ·rw [if_neg c5] at H
      exact absurd H (by simp)
    ·rw [if_neg c4] at H
     have c4b0 : decide (x13_1 < (l0.length : Int)) = false := decide_eq_false c4
     clear c4
     obtain rfl := Option.some.inj H
     go_wp2
     repeat (go_quiet (fail); try go_wp2)
     go_ret
     exact ⟨by first | rfl | (simp; done) | (simp [*]; done), by repeat (first | exact Drawn0.refl _ | apply Drawn0.step)⟩
 ·rw [if_neg c3] at H
  have c3b0 : ((l0.length : Int) == (l1.length : Int)) = false := beq_eq_false_iff_ne.mpr c3
  have c3b1 : ((l0.length : Int) != (l1.length : Int)) = true := bne_iff_ne.mpr c3
  have c3b2 : (l0.length == l1.length) = false := by first | simpa using c3 | (simp at c3 ⊢; omega)
  obtain rfl := Option.some.inj H
  go_enter Try.func69, Try.ntmps69
  go_wp2
  repeat (go_quiet (fail); try go_wp2)
  go_ret
  exact ⟨by first | rfl | (simp; done) | (simp [*]; done), by repeat (first | exact Drawn0.refl _ | apply Drawn0.step)⟩
/-! ### plait_identity: function 76 -/
def plait_identity.l0 : Nat → Int → List Int → Int → Int → Option (List Int)
 | 0, _, _, _, _ => none
 | k + 1, x0, x3, x8, x9 => if x9 < x8 then (if 0 ≤ x9 then (if x9 < (x3.length : Int) then (if 0 ≤ (wrap64 (x0 + x9)) then (if (wrap64 (x0 + x9)) < (x3.length : Int) then (plait_identity.l0 k x0 ((x3.set (x9 : Int).toNat (wrap64 (x0 + x9))).set ((wrap64 (x0 + x9)) : Int).toNat x9) x8 (wrap64 (x9 + 1))) else (none)) else (none)) else (none)) else (none)) else (some x3)
def plait_identity.f (k : Nat) (a0 : Int) : Option (List Int) := if 0 ≤ (wrap64 (2 * a0)) then (if (wrap64 (2 * a0) : Int).toNat ≤ 35184372088832 then (plait_identity.l0 k a0 (List.replicate (wrap64 (2 * a0) : Int).toNat 0) a0 0) else (none)) else (none)
theorem plait_identity.mono_l : ∀ k, (∀ y0 y1 y2 y3, LeO (plait_identity.l0 k y0 y1 y2 y3) (plait_identity.l0 (k + 1) y0 y1 y2 y3))
 | 0 => fun _ _ _ _ r h => by simp [plait_identity.l0] at h
 | k + 1 => by
  have ih0 := plait_identity.mono_l k
  ·intro y0 y1 y2 y3
   unfold plait_identity.l0
   repeat' first
   | (with_reducible exact ih0 _ _ _ _)
   | (with_reducible exact LeO.refl _)
   | (with_reducible exact LeO.none _)
   | (with_reducible refine LeO.ite ?_ ?_)
   | (with_reducible refine LeO.bind ?_ (fun _ => ?_))
   | exact ih0 _ _ _ _
   | exact LeO.none _
   | refine LeO.ite ?_ ?_
   | refine LeO.bind ?_ (fun _ => ?_)
theorem plait_identity.mono : ∀ a0 k, LeO (plait_identity.f k a0) (plait_identity.f (k + 1) a0) := by
 intro a0 k
 have ih0 := plait_identity.mono_l k
 unfold plait_identity.f
 repeat' first
   | (with_reducible exact ih0 _ _ _ _)
   | (with_reducible exact LeO.refl _)
   | (with_reducible exact LeO.none _)
   | (with_reducible refine LeO.ite ?_ ?_)
   | (with_reducible refine LeO.bind ?_ (fun _ => ?_))
   | exact ih0 _ _ _ _
   | exact LeO.none _
   | refine LeO.ite ?_ ?_
   | refine LeO.bind ?_ (fun _ => ?_)
set_option maxHeartbeats 8000000 in
set_option maxRecDepth 100000 in
theorem plait_identity.calls (k : Nat) (a0 : Int) (r : List Int) (w : World) (h : plait_identity.f k a0 = some r) :
  Calls Try.prog 76 #[.int .i64 a0] w fun e w' => ∃ v0_ : Value, e = .returned (v0_) ∧ Kd.R (Kd.int .i64) 3 w' w.heap.size (fun _ => True) v0_ r ∧ Below w.heap.size w w' := by
 have HB := Aside0.mk (Below.refl w.heap.size w)
 have H : (if 0 ≤ (wrap64 (2 * a0)) then (if (wrap64 (2 * a0) : Int).toNat ≤ 35184372088832 then (plait_identity.l0 k a0 (List.replicate (wrap64 (2 * a0) : Int).toNat 0) a0 0) else (none)) else (none)) = some r := h
 clear h
 obtain ⟨ji2, hji2⟩ : ∃ j_ : Int, (wrap64 (2 * a0)) = j_ := ⟨_, rfl⟩
 replace H : (if 0 ≤ (ji2) then (if (ji2 : Int).toNat ≤ 35184372088832 then (plait_identity.l0 k a0 (List.replicate (ji2 : Int).toNat 0) a0 0) else (none)) else (none)) = some r := by first | (rw [hji2] at H; exact H) | (simp only [hji2] at H ⊢; exact H)
 have hji2w : (IntKind.i64.wrap (2 * a0)) = ji2 := (i64_w _).trans hji2
 by_cases c3 : 0 ≤ (ji2)
 ·rw [if_pos c3] at H
  have c3b0 := eq_true c3
  have c3b1 : decide (0 ≤ (ji2)) = true := decide_eq_true c3
  clear c3
  by_cases c4 : (ji2 : Int).toNat ≤ 35184372088832
  ·rw [if_pos c4] at H
   have c4b0 := eq_true c4
   have c4b1 : decide ((ji2 : Int).toNat ≤ 35184372088832) = true := decide_eq_true c4
   clear c4
   obtain ⟨y146, hy146⟩ : ∃ y_ : List Int, y_ = (List.replicate (ji2 : Int).toNat 0) := ⟨_, rfl⟩
   replace H : (plait_identity.l0 k a0 y146 a0 0) = some r := by first | (rw [hy146]; with_reducible exact H) | (have H2_ := (Option.bind_some _ _).symm.trans H; rw [hy146]; with_reducible exact H2_) | (have H2_ := (Option.bind_some _ _).symm.trans H; with_reducible exact H2_) | with_reducible exact H | (rw [hy146]; exact H) | exact H
   have Ny146 := Aside0.mk hy146
   clear hy146
   have H' := Aside0.mk H
   clear H
   go_enter Try.func76, Try.ntmps76
   go_wp2_with (first | ((with_reducible refine gate_dst (N := 7) rfl ?_); refine Kd.R_make (Kd.int .i64) _ 3 rfl (N := 7) rfl 65 _ _ rfl ji2 rfl rfl Try.underlying65 (.int .i64 0) 8 info3 rfl (by decide) (by omega) 0 (ok := fun _ => True) (okp := fun _ => True) rfl (fun _ hk => hk) trivial (of_decide_eq_true (by first | (with_reducible assumption) | assumption)) (Nat.le_trans (Nat.mul_le_mul_right _ (of_decide_eq_true (by first | (with_reducible assumption) | assumption) : ji2.toNat ≤ 35184372088832)) (by omega)) (Below.refl _ _) (Nat.le_refl _) ?_; intro v147 w5 ho6 hb hg_ hnew_; clear hg_ hnew_; (first | rw [← Ny146.out] at ho6 | (simp only [Int.reduceToNat] at ho6; rw [← Ny146.out] at ho6)); have n0_ := Aside0.mk (Kd.R_lower ho6 (below_size (by repeat (first | (with_reducible first | exact HB.out | apply below_alloc | apply pw_below_drewN | apply below_drew1) | exact HB.out)))); have n1_ := Aside0.mk (below_step (by repeat (first | (with_reducible first | exact HB.out | apply below_alloc | apply pw_below_drewN | apply below_drew1) | exact HB.out)) hb); clear HB; have HO148 := n0_; have HB := n1_; clear n0_ n1_; clear hb ho6))
   go_loopg [9] k (fun kq v9 w' => ∃ (x3_1 : List Int) (x9_1 : Int), v9 = .int .i64 x9_1 ∧ Aside0 (plait_identity.l0 kq a0 x3_1 a0 x9_1 = some r) ∧ Aside0 (kq ≤ k) ∧ Aside0 (Kd.R (Kd.int .i64) 3 w' w.heap.size (fun _ => True) v147 x3_1) ∧ Aside0 (Below w.heap.size w w'))
   case atStart => exact ⟨(y146), (0), (by first | rfl | (simp; done) | (simp [*]; done)), H', ⟨Nat.le_refl _⟩, ⟨by (with_reducible repeat (first | apply Kd.R_alloc | apply Kd.R_drewN | apply Kd.R_drew)); exact HO148.out⟩, ⟨by repeat (first | (with_reducible first | exact HB.out | apply below_alloc | apply pw_below_drewN | apply below_drew1) | exact HB.out)⟩⟩
   case round =>
    clear H'
    try clear p2
    try clear c3
    try clear c3b0
    try clear c3b1
    try clear c4
    try clear c4b0
    try clear c4b1
    try clear p6
    obtain ⟨x3_1, x9_1, rfl, HA, HK1, HO_3, HB⟩ := hrel
    cases gk with
    | zero => exact absurd HA.out (by simp [plait_identity.l0])
    | succ k1 =>
     have H := HA.out
     clear HA
     simp only [plait_identity.l0] at H
     by_cases c7 : x9_1 < a0
     ·rw [if_pos c7] at H
      have c7b0 : decide (x9_1 < a0) = true := decide_eq_true c7
      clear c7
      by_cases c8 : 0 ≤ x9_1
      ·rw [if_pos c8] at H
       have c8b0 : decide (0 ≤ x9_1) = true := decide_eq_true c8
       clear c8
       by_cases c9 : x9_1 < (x3_1.length : Int)
       ·rw [if_pos c9] at H
        have c9b0 : decide (x9_1 < (x3_1.length : Int)) = true := decide_eq_true c9
        clear c9
        obtain ⟨y149, hy149⟩ : ∃ y_ : List Int, y_ = (x3_1.set (x9_1 : Int).toNat (wrap64 (a0 + x9_1))) := ⟨_, rfl⟩
        replace H : (if 0 ≤ (wrap64 (a0 + x9_1)) then (if (wrap64 (a0 + x9_1)) < (x3_1.length : Int) then (plait_identity.l0 k1 a0 (y149.set ((wrap64 (a0 + x9_1)) : Int).toNat x9_1) a0 (wrap64 (x9_1 + 1))) else (none)) else (none)) = some r := by first | (rw [hy149]; with_reducible exact H) | (have H2_ := (Option.bind_some _ _).symm.trans H; rw [hy149]; with_reducible exact H2_) | (have H2_ := (Option.bind_some _ _).symm.trans H; with_reducible exact H2_) | with_reducible exact H | (rw [hy149]; exact H) | exact H
        have Ny149 := Aside0.mk hy149
        clear hy149
        obtain ⟨ji11, hji11⟩ : ∃ j_ : Int, (wrap64 (a0 + x9_1)) = j_ := ⟨_, rfl⟩
        replace H : (if 0 ≤ (ji11) then (if (ji11) < (x3_1.length : Int) then (plait_identity.l0 k1 a0 (y149.set ((ji11) : Int).toNat x9_1) a0 (wrap64 (x9_1 + 1))) else (none)) else (none)) = some r := by first | (rw [hji11] at H; exact H) | (simp only [hji11] at H ⊢; exact H)
        (try rw [hji11] at Ny149)
        have hji11w : (IntKind.i64.wrap (a0 + x9_1)) = ji11 := (i64_w _).trans hji11
        by_cases c12 : 0 ≤ (ji11)
        ·rw [if_pos c12] at H
         have c12b0 : decide (0 ≤ (ji11)) = true := decide_eq_true c12
         clear c12
         by_cases c13 : (ji11) < (x3_1.length : Int)
         ·rw [if_pos c13] at H
          have c13b0 : decide ((ji11) < (x3_1.length : Int)) = true := decide_eq_true c13
          clear c13
          obtain ⟨y150, hy150⟩ : ∃ y_ : List Int, y_ = (y149.set ((ji11) : Int).toNat x9_1) := ⟨_, rfl⟩
          replace H : (plait_identity.l0 k1 a0 y150 a0 (wrap64 (x9_1 + 1))) = some r := by first | (rw [hy150]; with_reducible exact H) | (have H2_ := (Option.bind_some _ _).symm.trans H; rw [hy150]; with_reducible exact H2_) | (have H2_ := (Option.bind_some _ _).symm.trans H; with_reducible exact H2_) | with_reducible exact H | (rw [hy150]; exact H) | exact H
          have Ny150 := Aside0.mk hy150
          clear hy150
          have H' := Aside0.mk H
          clear H
          have p10 : 0 ≤ (x9_1 : Int) := of_decide_eq_true (by first | (with_reducible assumption) | assumption)
          have q10 : (x9_1 : Int) < ((x3_1.length : Int) : Int) := of_decide_eq_true (by first | (with_reducible assumption) | assumption)
          obtain ⟨go10, co10, eo10, gb10, gl10, cl10, HG10⟩ := Kd.R_form HO_3.out (by omega)
          (first | cases eo10 | (injection eo10 with ea_ en_ ec_; (first | subst ea_ | (injection ea_ with ea_; subst ea_)); subst ec_; clear en_))
          have GB10 := Aside0.mk gb10
          have GG10 := Aside0.mk HG10
          clear gb10 gl10 HG10
          obtain ⟨hx10_0, hf10_0⟩ := Kd.R_celln 0 HO_3.out (x9_1 : Int) p10 q10
          replace p10 := eq_true p10
          replace q10 := eq_true q10
          have HP15 := Kd.R_putg HO_3.out (x9_1 : Int) ji11
          go_wp2_with (first | ((with_reducible refine gate_store (t := 3) (p := 22) rfl ?_); refine store_event (t := 3) (p := 22) (v := ?vo_w16) (w1 := (wr.setCell ⟨go10, (x9_1 : Int).toNat, none⟩ (.int .i64 ji11))) ?hg ?ho ?hn ?hr ?_; (case ho => rfl); (case hg => rfl); (case hn => rfl); (case hr => first | (go_simp; done) | (go_simp; rfl)); intro w16 hw; have hg : wr.grownBy w16 (some go10) := (by rw [hw]; exact HP15.2); have hp_ : Kd.R (Kd.int .i64) 3 w16 w.heap.size (fun _ => True) (.slice (some ⟨go10, 0, none⟩) x3_1.length co10) y149 := (by rw [hw, Ny149.out]; exact HP15.1); clear HP15; have n0_ := Aside0.mk (hp_); have n1_ := Aside0.mk ((by rw [hw]; exact below_set (HB.out) GB10.out : Below w.heap.size w w16)); clear HO_3; clear HB; have HO_3 := n0_; have HB := n1_; clear n0_ n1_; clear hg hw hp_; have p14 : 0 ≤ ((ji11) : Int) := of_decide_eq_true (by first | (with_reducible assumption) | assumption); have q14 : ((ji11) : Int) < ((x3_1.length : Int) : Int) := of_decide_eq_true (by first | (with_reducible assumption) | assumption); obtain ⟨hx14_0, hf14_0⟩ := Kd.R_celln 0 HO_3.out ((ji11) : Int) p14 q14; replace p14 := eq_true p14; replace q14 := eq_true q14; obtain ⟨hy17_, hz17_⟩ := Kd.R_celln 0 HO_3.out ((ji11) : Int) (of_decide_eq_true (by first | (with_reducible assumption) | assumption)) (of_decide_eq_true (by first | (with_reducible assumption) | assumption)); have HP17 := Kd.R_putg HO_3.out ((ji11) : Int) x9_1) | ((with_reducible refine gate_store (t := 3) (p := 23) rfl ?_); refine store_event (t := 3) (p := 23) (v := ?vo_w18) (w1 := (w16.setCell ⟨go10, ((ji11) : Int).toNat, none⟩ (.int .i64 x9_1))) ?hg ?ho ?hn ?hr ?_; (case ho => rfl); (case hg => rfl); (case hn => rfl); (case hr => first | (go_simp; done) | (go_simp; rfl)); intro w18 hw; have hg : w16.grownBy w18 (some go10) := (by rw [hw]; exact HP17.2); have hp_ : Kd.R (Kd.int .i64) 3 w18 w.heap.size (fun _ => True) (.slice (some ⟨go10, 0, none⟩) x3_1.length co10) y150 := (by rw [hw, Ny150.out]; exact HP17.1); clear HP17; have n0_ := Aside0.mk (hp_); have n1_ := Aside0.mk ((by rw [hw]; exact below_set (HB.out) GB10.out : Below w.heap.size w w18)); clear HO_3; clear HB; have HO_3 := n0_; have HB := n1_; clear n0_ n1_; clear hg hw hp_))
          go_roundg k1
          case measure => have := HK1.out; omega
          case rel => exact ⟨(y150), (wrap64 (x9_1 + 1)), (by first | rfl | (simp; done) | (simp [*]; done)), H', ⟨by have := HK1.out; omega⟩, ⟨by (with_reducible repeat (first | apply Kd.R_alloc | apply Kd.R_drewN | apply Kd.R_drew)); exact HO_3.out⟩, ⟨by repeat (first | (with_reducible first | exact HB.out | apply below_alloc | apply pw_below_drewN | apply below_drew1) | exact HB.out)⟩⟩
         ·rw [if_neg c13] at H
          exact absurd H (by simp)
        ·rw [if_neg c12] at H
         exact absurd H (by simp)
       ·rw [if_neg c9] at H
        exact absurd H (by simp)
      ·rw [if_neg c8] at H
       exact absurd H (by simp)
     ·rw [if_neg c7] at H
      have c7b0 : decide (x9_1 < a0) = false := decide_eq_false c7
      clear c7
      obtain rfl := Option.some.inj H
      go_wp2
      go_ret
      exact ⟨_, by first | rfl | (simp [errW_none, errW_some] <;> rfl) | (simp only [← hji2]; first | rfl | (simp [errW_none, errW_some] <;> rfl)) | (simp [*, errW_none, errW_some] <;> rfl), by (with_reducible repeat (first | apply Kd.R_alloc | apply Kd.R_drewN | apply Kd.R_drew)); exact HO_3.out, by repeat (first | (with_reducible first | exact HB.out | apply below_alloc | apply pw_below_drewN | apply below_drew1) | exact HB.out)⟩
  ·rw [if_neg c4] at H
   exact absurd H (by simp)
 ·rw [if_neg c3] at H
  exact absurd H (by simp)
/-! ### plait_hook: function 77 -/
def plait_hook.f (k : Nat) (a0 : Int) (a1 : Int) : Option (List Int) := (plait_identity.f k a0).bind fun t151 => (if 0 ≤ a1 then (if a1 < (t151.length : Int) then (if 0 ≤ (wrap64 (a1 + 1)) then (if (wrap64 (a1 + 1)) < (t151.length : Int) then (if 0 ≤ (wrap64 (a0 + a1)) then (if (wrap64 (a0 + a1)) < (t151.length : Int) then (if 0 ≤ (wrap64 ((wrap64 (a0 + a1)) + 1)) then (if (wrap64 ((wrap64 (a0 + a1)) + 1)) < (t151.length : Int) then (some ((((t151.set (a1 : Int).toNat (wrap64 (a1 + 1))).set ((wrap64 (a1 + 1)) : Int).toNat a1).set ((wrap64 (a0 + a1)) : Int).toNat (wrap64 ((wrap64 (a0 + a1)) + 1))).set ((wrap64 ((wrap64 (a0 + a1)) + 1)) : Int).toNat (wrap64 (a0 + a1)))) else (none)) else (none)) else (none)) else (none)) else (none)) else (none)) else (none)) else (none))
theorem plait_hook.mono : ∀ a0 a1 k, LeO (plait_hook.f k a0 a1) (plait_hook.f (k + 1) a0 a1) := by
 intro a0 a1 k
 unfold plait_hook.f
 repeat' first
   | (with_reducible exact plait_identity.mono _ _)
   | (with_reducible exact LeO.refl _)
   | (with_reducible exact LeO.none _)
   | (with_reducible refine LeO.ite ?_ ?_)
   | (with_reducible refine LeO.bind ?_ (fun _ => ?_))
   | exact plait_identity.mono _ _
   | exact LeO.none _
   | refine LeO.ite ?_ ?_
   | refine LeO.bind ?_ (fun _ => ?_)
set_option maxHeartbeats 8000000 in
set_option maxRecDepth 100000 in
theorem plait_hook.calls (k : Nat) (a0 : Int) (a1 : Int) (r : List Int) (w : World) (h : plait_hook.f k a0 a1 = some r) :
  Calls Try.prog 77 #[.int .i64 a0, .int .i64 a1] w fun e w' => ∃ v0_ : Value, e = .returned (v0_) ∧ Kd.R (Kd.int .i64) 3 w' w.heap.size (fun _ => True) v0_ r ∧ Below w.heap.size w w' := by
 have HB := Aside0.mk (Below.refl w.heap.size w)
 have H : ((plait_identity.f k a0).bind fun t151 => (if 0 ≤ a1 then (if a1 < (t151.length : Int) then (if 0 ≤ (wrap64 (a1 + 1)) then (if (wrap64 (a1 + 1)) < (t151.length : Int) then (if 0 ≤ (wrap64 (a0 + a1)) then (if (wrap64 (a0 + a1)) < (t151.length : Int) then (if 0 ≤ (wrap64 ((wrap64 (a0 + a1)) + 1)) then (if (wrap64 ((wrap64 (a0 + a1)) + 1)) < (t151.length : Int) then (some ((((t151.set (a1 : Int).toNat (wrap64 (a1 + 1))).set ((wrap64 (a1 + 1)) : Int).toNat a1).set ((wrap64 (a0 + a1)) : Int).toNat (wrap64 ((wrap64 (a0 + a1)) + 1))).set ((wrap64 ((wrap64 (a0 + a1)) + 1)) : Int).toNat (wrap64 (a0 + a1)))) else (none)) else (none)) else (none)) else (none)) else (none)) else (none)) else (none)) else (none))) = some r := h
 clear h
 replace H := Option.bind_eq_some_iff.mp H
 obtain ⟨t151, A30, H⟩ := H
 replace H : (if 0 ≤ a1 then (if a1 < (t151.length : Int) then (if 0 ≤ (wrap64 (a1 + 1)) then (if (wrap64 (a1 + 1)) < (t151.length : Int) then (if 0 ≤ (wrap64 (a0 + a1)) then (if (wrap64 (a0 + a1)) < (t151.length : Int) then (if 0 ≤ (wrap64 ((wrap64 (a0 + a1)) + 1)) then (if (wrap64 ((wrap64 (a0 + a1)) + 1)) < (t151.length : Int) then (some ((((t151.set (a1 : Int).toNat (wrap64 (a1 + 1))).set ((wrap64 (a1 + 1)) : Int).toNat a1).set ((wrap64 (a0 + a1)) : Int).toNat (wrap64 ((wrap64 (a0 + a1)) + 1))).set ((wrap64 ((wrap64 (a0 + a1)) + 1)) : Int).toNat (wrap64 (a0 + a1)))) else (none)) else (none)) else (none)) else (none)) else (none)) else (none)) else (none)) else (none)) = some r := H
 have A3 := Aside0.mk A30
 clear A30
 by_cases c4 : 0 ≤ a1
 ·rw [if_pos c4] at H
  have c4b0 : decide (0 ≤ a1) = true := decide_eq_true c4
  clear c4
  by_cases c5 : a1 < (t151.length : Int)
  ·rw [if_pos c5] at H
   have c5b0 : decide (a1 < (t151.length : Int)) = true := decide_eq_true c5
   clear c5
   obtain ⟨y154, hy154⟩ : ∃ y_ : List Int, y_ = (t151.set (a1 : Int).toNat (wrap64 (a1 + 1))) := ⟨_, rfl⟩
   replace H : (if 0 ≤ (wrap64 (a1 + 1)) then (if (wrap64 (a1 + 1)) < (t151.length : Int) then (if 0 ≤ (wrap64 (a0 + a1)) then (if (wrap64 (a0 + a1)) < (t151.length : Int) then (if 0 ≤ (wrap64 ((wrap64 (a0 + a1)) + 1)) then (if (wrap64 ((wrap64 (a0 + a1)) + 1)) < (t151.length : Int) then (some (((y154.set ((wrap64 (a1 + 1)) : Int).toNat a1).set ((wrap64 (a0 + a1)) : Int).toNat (wrap64 ((wrap64 (a0 + a1)) + 1))).set ((wrap64 ((wrap64 (a0 + a1)) + 1)) : Int).toNat (wrap64 (a0 + a1)))) else (none)) else (none)) else (none)) else (none)) else (none)) else (none)) = some r := by first | (rw [hy154]; with_reducible exact H) | (have H2_ := (Option.bind_some _ _).symm.trans H; rw [hy154]; with_reducible exact H2_) | (have H2_ := (Option.bind_some _ _).symm.trans H; with_reducible exact H2_) | with_reducible exact H | (rw [hy154]; exact H) | exact H
   have Ny154 := Aside0.mk hy154
   clear hy154
   obtain ⟨ji7, hji7⟩ : ∃ j_ : Int, (wrap64 (a1 + 1)) = j_ := ⟨_, rfl⟩
   replace H : (if 0 ≤ (ji7) then (if (ji7) < (t151.length : Int) then (if 0 ≤ (wrap64 (a0 + a1)) then (if (wrap64 (a0 + a1)) < (t151.length : Int) then (if 0 ≤ (wrap64 ((wrap64 (a0 + a1)) + 1)) then (if (wrap64 ((wrap64 (a0 + a1)) + 1)) < (t151.length : Int) then (some (((y154.set ((ji7) : Int).toNat a1).set ((wrap64 (a0 + a1)) : Int).toNat (wrap64 ((wrap64 (a0 + a1)) + 1))).set ((wrap64 ((wrap64 (a0 + a1)) + 1)) : Int).toNat (wrap64 (a0 + a1)))) else (none)) else (none)) else (none)) else (none)) else (none)) else (none)) = some r := by first | (rw [hji7] at H; exact H) | (simp only [hji7] at H ⊢; exact H)
   (try rw [hji7] at A3)
   (try rw [hji7] at Ny154)
   have hji7w : (IntKind.i64.wrap (a1 + 1)) = ji7 := (i64_w _).trans hji7
   by_cases c8 : 0 ≤ (ji7)
   ·rw [if_pos c8] at H
    have c8b0 : decide (0 ≤ (ji7)) = true := decide_eq_true c8
    clear c8
    by_cases c9 : (ji7) < (t151.length : Int)
    ·rw [if_pos c9] at H
     have c9b0 : decide ((ji7) < (t151.length : Int)) = true := decide_eq_true c9
     clear c9
     obtain ⟨y155, hy155⟩ : ∃ y_ : List Int, y_ = (y154.set ((ji7) : Int).toNat a1) := ⟨_, rfl⟩
     replace H : (if 0 ≤ (wrap64 (a0 + a1)) then (if (wrap64 (a0 + a1)) < (t151.length : Int) then (if 0 ≤ (wrap64 ((wrap64 (a0 + a1)) + 1)) then (if (wrap64 ((wrap64 (a0 + a1)) + 1)) < (t151.length : Int) then (some ((y155.set ((wrap64 (a0 + a1)) : Int).toNat (wrap64 ((wrap64 (a0 + a1)) + 1))).set ((wrap64 ((wrap64 (a0 + a1)) + 1)) : Int).toNat (wrap64 (a0 + a1)))) else (none)) else (none)) else (none)) else (none)) = some r := by first | (rw [hy155]; with_reducible exact H) | (have H2_ := (Option.bind_some _ _).symm.trans H; rw [hy155]; with_reducible exact H2_) | (have H2_ := (Option.bind_some _ _).symm.trans H; with_reducible exact H2_) | with_reducible exact H | (rw [hy155]; exact H) | exact H
     have Ny155 := Aside0.mk hy155
     clear hy155
     obtain ⟨ji11, hji11⟩ : ∃ j_ : Int, (wrap64 (a0 + a1)) = j_ := ⟨_, rfl⟩
     replace H : (if 0 ≤ (ji11) then (if (ji11) < (t151.length : Int) then (if 0 ≤ (wrap64 ((ji11) + 1)) then (if (wrap64 ((ji11) + 1)) < (t151.length : Int) then (some ((y155.set ((ji11) : Int).toNat (wrap64 ((ji11) + 1))).set ((wrap64 ((ji11) + 1)) : Int).toNat (ji11))) else (none)) else (none)) else (none)) else (none)) = some r := by first | (rw [hji11] at H; exact H) | (simp only [hji11] at H ⊢; exact H)
     (try rw [hji11] at A3)
     have hji11w : (IntKind.i64.wrap (a0 + a1)) = ji11 := (i64_w _).trans hji11
     by_cases c12 : 0 ≤ (ji11)
     ·rw [if_pos c12] at H
      have c12b0 : decide (0 ≤ (ji11)) = true := decide_eq_true c12
      clear c12
      by_cases c13 : (ji11) < (t151.length : Int)
      ·rw [if_pos c13] at H
       have c13b0 : decide ((ji11) < (t151.length : Int)) = true := decide_eq_true c13
       clear c13
       obtain ⟨y156, hy156⟩ : ∃ y_ : List Int, y_ = (y155.set ((ji11) : Int).toNat (wrap64 ((ji11) + 1))) := ⟨_, rfl⟩
       replace H : (if 0 ≤ (wrap64 ((ji11) + 1)) then (if (wrap64 ((ji11) + 1)) < (t151.length : Int) then (some (y156.set ((wrap64 ((ji11) + 1)) : Int).toNat (ji11))) else (none)) else (none)) = some r := by first | (rw [hy156]; with_reducible exact H) | (have H2_ := (Option.bind_some _ _).symm.trans H; rw [hy156]; with_reducible exact H2_) | (have H2_ := (Option.bind_some _ _).symm.trans H; with_reducible exact H2_) | with_reducible exact H | (rw [hy156]; exact H) | exact H
       have Ny156 := Aside0.mk hy156
       clear hy156
       obtain ⟨ji15, hji15⟩ : ∃ j_ : Int, (wrap64 ((ji11) + 1)) = j_ := ⟨_, rfl⟩
       replace H : (if 0 ≤ (ji15) then (if (ji15) < (t151.length : Int) then (some (y156.set ((ji15) : Int).toNat (ji11))) else (none)) else (none)) = some r := by first | (rw [hji15] at H; exact H) | (simp only [hji15] at H ⊢; exact H)
       (try rw [hji15] at A3)
       (try rw [hji15] at Ny156)
       have hji15w : (IntKind.i64.wrap ((ji11) + 1)) = ji15 := (i64_w _).trans hji15
       by_cases c16 : 0 ≤ (ji15)
       ·rw [if_pos c16] at H
        have c16b0 : decide (0 ≤ (ji15)) = true := decide_eq_true c16
        clear c16
        by_cases c17 : (ji15) < (t151.length : Int)
        ·rw [if_pos c17] at H
         have c17b0 : decide ((ji15) < (t151.length : Int)) = true := decide_eq_true c17
         clear c17
         obtain ⟨y157, hy157⟩ : ∃ y_ : List Int, y_ = (y156.set ((ji15) : Int).toNat (ji11)) := ⟨_, rfl⟩
         replace H : (some y157) = some r := by first | (rw [hy157]; with_reducible exact H) | (have H2_ := (Option.bind_some _ _).symm.trans H; rw [hy157]; with_reducible exact H2_) | (have H2_ := (Option.bind_some _ _).symm.trans H; with_reducible exact H2_) | with_reducible exact H | (rw [hy157]; exact H) | exact H
         have Ny157 := Aside0.mk hy157
         clear hy157
         obtain rfl := Option.some.inj H
         go_enter Try.func77, Try.ntmps77
         go_wp2_with (first | ((with_reducible refine gate_callee (f := 76) rfl ?_); refine goesL_ (some 7) rfl rfl Try.func76 (by kernel_rfl) rfl #[.int .i64 a0] rfl (by (try simp only [List.map_toArray, List.map_cons, List.map_nil]); first | done | rfl | (simp only [List.length_drop, List.length_take]; rfl)) ?_; (with_reducible refine (plait_identity.calls k a0 t151 _ A3.out).mono ?_); rintro e w19 ⟨v152, rfl, ho0, hb⟩; refine ⟨_, rfl, ?_⟩; have n0_ := Aside0.mk (Kd.R_lower ho0 (below_size (by repeat (first | (with_reducible first | exact HB.out | apply below_alloc | apply pw_below_drewN | apply below_drew1) | exact HB.out)))); have n1_ := Aside0.mk (below_step (by repeat (first | (with_reducible first | exact HB.out | apply below_alloc | apply pw_below_drewN | apply below_drew1) | exact HB.out)) hb); clear HB; have HO153 := n0_; have HB := n1_; clear n0_ n1_; (try clear hb); (try clear hb2); (try clear hk); (try clear hi); (try clear ho0); have p6 : 0 ≤ (a1 : Int) := of_decide_eq_true (by first | (with_reducible assumption) | assumption); have q6 : (a1 : Int) < ((t151.length : Int) : Int) := of_decide_eq_true (by first | (with_reducible assumption) | assumption); obtain ⟨go6, co6, eo6, gb6, gl6, cl6, HG6⟩ := Kd.R_form HO153.out (by omega); (first | cases eo6 | (injection eo6 with ea_ en_ ec_; (first | subst ea_ | (injection ea_ with ea_; subst ea_)); subst ec_; clear en_)); have GB6 := Aside0.mk gb6; have GG6 := Aside0.mk HG6; clear gb6 gl6 HG6; obtain ⟨hx6_0, hf6_0⟩ := Kd.R_celln 0 HO153.out (a1 : Int) p6 q6; replace p6 := eq_true p6; replace q6 := eq_true q6; obtain ⟨hy20_, hz20_⟩ := Kd.R_celln 0 HO153.out (a1 : Int) (of_decide_eq_true (by first | (with_reducible assumption) | assumption)) (of_decide_eq_true (by first | (with_reducible assumption) | assumption)); have HP20 := Kd.R_putg HO153.out (a1 : Int) ji7) | ((with_reducible refine gate_store (t := 3) (p := 16) rfl ?_); refine store_event (t := 3) (p := 16) (v := ?vo_w21) (w1 := (w19.setCell ⟨go6, (a1 : Int).toNat, none⟩ (.int .i64 ji7))) ?hg ?ho ?hn ?hr ?_; (case ho => rfl); (case hg => rfl); (case hn => rfl); (case hr => first | (go_simp; done) | (go_simp; rfl)); intro w21 hw; have hg : w19.grownBy w21 (some go6) := (by rw [hw]; exact HP20.2); have hp_ : Kd.R (Kd.int .i64) 3 w21 w.heap.size (fun _ => True) (.slice (some ⟨go6, 0, none⟩) t151.length co6) y154 := (by rw [hw, Ny154.out]; exact HP20.1); clear HP20; have n0_ := Aside0.mk (hp_); have n1_ := Aside0.mk ((by rw [hw]; exact below_set (HB.out) GB6.out : Below w.heap.size w w21)); clear HO153; clear HB; have HO153 := n0_; have HB := n1_; clear n0_ n1_; clear hg hw hp_; have p10 : 0 ≤ ((ji7) : Int) := of_decide_eq_true (by first | (with_reducible assumption) | assumption); have q10 : ((ji7) : Int) < ((t151.length : Int) : Int) := of_decide_eq_true (by first | (with_reducible assumption) | assumption); obtain ⟨hx10_0, hf10_0⟩ := Kd.R_celln 0 HO153.out ((ji7) : Int) p10 q10; replace p10 := eq_true p10; replace q10 := eq_true q10; obtain ⟨hy22_, hz22_⟩ := Kd.R_celln 0 HO153.out ((ji7) : Int) (of_decide_eq_true (by first | (with_reducible assumption) | assumption)) (of_decide_eq_true (by first | (with_reducible assumption) | assumption)); have HP22 := Kd.R_putg HO153.out ((ji7) : Int) a1) | ((with_reducible refine gate_store (t := 3) (p := 17) rfl ?_); refine store_event (t := 3) (p := 17) (v := ?vo_w23) (w1 := (w21.setCell ⟨go6, ((ji7) : Int).toNat, none⟩ (.int .i64 a1))) ?hg ?ho ?hn ?hr ?_; (case ho => rfl); (case hg => rfl); (case hn => rfl); (case hr => first | (go_simp; done) | (go_simp; rfl)); intro w23 hw; have hg : w21.grownBy w23 (some go6) := (by rw [hw]; exact HP22.2); have hp_ : Kd.R (Kd.int .i64) 3 w23 w.heap.size (fun _ => True) (.slice (some ⟨go6, 0, none⟩) t151.length co6) y155 := (by rw [hw, Ny155.out]; exact HP22.1); clear HP22; have n0_ := Aside0.mk (hp_); have n1_ := Aside0.mk ((by rw [hw]; exact below_set (HB.out) GB6.out : Below w.heap.size w w23)); clear HO153; clear HB; have HO153 := n0_; have HB := n1_; clear n0_ n1_; clear hg hw hp_; have p14 : 0 ≤ ((ji11) : Int) := of_decide_eq_true (by first | (with_reducible assumption) | assumption); have q14 : ((ji11) : Int) < ((t151.length : Int) : Int) := of_decide_eq_true (by first | (with_reducible assumption) | assumption); obtain ⟨hx14_0, hf14_0⟩ := Kd.R_celln 0 HO153.out ((ji11) : Int) p14 q14; replace p14 := eq_true p14; replace q14 := eq_true q14; obtain ⟨hy24_, hz24_⟩ := Kd.R_celln 0 HO153.out ((ji11) : Int) (of_decide_eq_true (by first | (with_reducible assumption) | assumption)) (of_decide_eq_true (by first | (with_reducible assumption) | assumption)); have HP24 := Kd.R_putg HO153.out ((ji11) : Int) ji15) | ((with_reducible refine gate_store (t := 3) (p := 34) rfl ?_); refine store_event (t := 3) (p := 34) (v := ?vo_w25) (w1 := (w23.setCell ⟨go6, ((ji11) : Int).toNat, none⟩ (.int .i64 ji15))) ?hg ?ho ?hn ?hr ?_; (case ho => rfl); (case hg => rfl); (case hn => rfl); (case hr => first | (go_simp; done) | (go_simp; rfl)); intro w25 hw; have hg : w23.grownBy w25 (some go6) := (by rw [hw]; exact HP24.2); have hp_ : Kd.R (Kd.int .i64) 3 w25 w.heap.size (fun _ => True) (.slice (some ⟨go6, 0, none⟩) t151.length co6) y156 := (by rw [hw, Ny156.out]; exact HP24.1); clear HP24; have n0_ := Aside0.mk (hp_); have n1_ := Aside0.mk ((by rw [hw]; exact below_set (HB.out) GB6.out : Below w.heap.size w w25)); clear HO153; clear HB; have HO153 := n0_; have HB := n1_; clear n0_ n1_; clear hg hw hp_; have p18 : 0 ≤ ((ji15) : Int) := of_decide_eq_true (by first | (with_reducible assumption) | assumption); have q18 : ((ji15) : Int) < ((t151.length : Int) : Int) := of_decide_eq_true (by first | (with_reducible assumption) | assumption); obtain ⟨hx18_0, hf18_0⟩ := Kd.R_celln 0 HO153.out ((ji15) : Int) p18 q18; replace p18 := eq_true p18; replace q18 := eq_true q18; obtain ⟨hy26_, hz26_⟩ := Kd.R_celln 0 HO153.out ((ji15) : Int) (of_decide_eq_true (by first | (with_reducible assumption) | assumption)) (of_decide_eq_true (by first | (with_reducible assumption) | assumption)); have HP26 := Kd.R_putg HO153.out ((ji15) : Int) ji11) | ((with_reducible refine gate_store (t := 3) (p := 35) rfl ?_); refine store_event (t := 3) (p := 35) (v := ?vo_w27) (w1 := (w25.setCell ⟨go6, ((ji15) : Int).toNat, none⟩ (.int .i64 ji11))) ?hg ?ho ?hn ?hr ?_; (case ho => rfl); (case hg => rfl); (case hn => rfl); (case hr => first | (go_simp; done) | (go_simp; rfl)); intro w27 hw; have hg : w25.grownBy w27 (some go6) := (by rw [hw]; exact HP26.2); have hp_ : Kd.R (Kd.int .i64) 3 w27 w.heap.size (fun _ => True) (.slice (some ⟨go6, 0, none⟩) t151.length co6) y157 := (by rw [hw, Ny157.out]; exact HP26.1); clear HP26; have n0_ := Aside0.mk (hp_); have n1_ := Aside0.mk ((by rw [hw]; exact below_set (HB.out) GB6.out : Below w.heap.size w w27)); clear HO153; clear HB; have HO153 := n0_; have HB := n1_; clear n0_ n1_; clear hg hw hp_))
         go_ret
         exact ⟨_, by first | rfl | (simp [errW_none, errW_some] <;> rfl) | (simp only [← hji7, ← hji11, ← hji15]; first | rfl | (simp [errW_none, errW_some] <;> rfl)) | (simp [*, errW_none, errW_some] <;> rfl), by (with_reducible repeat (first | apply Kd.R_alloc | apply Kd.R_drewN | apply Kd.R_drew)); exact HO153.out, by repeat (first | (with_reducible first | exact HB.out | apply below_alloc | apply pw_below_drewN | apply below_drew1) | exact HB.out)⟩
        ·rw [if_neg c17] at H
         exact absurd H (by simp)
       ·rw [if_neg c16] at H
        exact absurd H (by simp)
      ·rw [if_neg c13] at H
       exact absurd H (by simp)
     ·rw [if_neg c12] at H
      exact absurd H (by simp)
    ·rw [if_neg c9] at H
     exact absurd H (by simp)
   ·rw [if_neg c8] at H
    exact absurd H (by simp)
  ·rw [if_neg c5] at H
   exact absurd H (by simp)
 ·rw [if_neg c4] at H
  exact absurd H (by simp)
/-! ### plait_diagram_int_89: function 89 -/
def plait_diagram_int_89.f (l0 : List Int) : Option (List Int) := (some (([] : List Int) : List Int)).bind fun y158 => (if y158.length + l0.length < 17592186044416 then (some (y158 ++ l0)) else (none))
set_option maxHeartbeats 8000000 in
set_option maxRecDepth 100000 in
theorem plait_diagram_int_89.calls (A0 : Option Addr) (c0 : Nat) (l0 : List Int) (r : List Int) (w : World) (hr0 : Kd.C (Kd.int .i64) w A0 l0.length l0) (hc0 : l0.length ≤ c0) (hne : A0.isNone = false) (h : plait_diagram_int_89.f l0 = some r) :
  Calls Try.prog 89 #[.slice A0 l0.length c0] w fun e w' => ∃ v0_ : Value, e = .returned (v0_) ∧ Kd.R (Kd.int .i64) 3 w' w.heap.size (fun _ => True) v0_ r ∧ Below w.heap.size w w' := by
 have HR0 := Aside0.mk hr0
 have HC0 := Aside0.mk hc0
 clear hr0 hc0
 have HB := Aside0.mk (Below.refl w.heap.size w)
 have H : ((some (([] : List Int) : List Int)).bind fun y158 => (if y158.length + l0.length < 17592186044416 then (some (y158 ++ l0)) else (none))) = some r := h
 clear h
 have hnil := fun (W : World) => Lib.run_eql_slice_nil (P := Try.prog) W 65 3 A0 l0.length c0 0 0 Try.underlying65
 simp only [hne] at hnil
 obtain ⟨y158, hy158⟩ : ∃ y_ : List Int, y_ = (([] : List Int)) := ⟨_, rfl⟩
 replace H : (if y158.length + l0.length < 17592186044416 then (some (y158 ++ l0)) else (none)) = some r := by first | (rw [hy158]; with_reducible exact H) | (have H2_ := (Option.bind_some _ _).symm.trans H; rw [hy158]; with_reducible exact H2_) | (have H2_ := (Option.bind_some _ _).symm.trans H; with_reducible exact H2_) | with_reducible exact H | (rw [hy158]; exact H) | exact H
 have Ny158 := Aside0.mk hy158
 clear hy158
 by_cases c2 : y158.length + l0.length < 17592186044416
 ·rw [if_pos c2] at H
  have LMc2 := Aside0.mk c2
  clear c2
  obtain ⟨y161, hy161⟩ : ∃ y_ : List Int, y_ = (y158 ++ l0) := ⟨_, rfl⟩
  replace H : (some y161) = some r := by first | (rw [hy161]; with_reducible exact H) | (have H2_ := (Option.bind_some _ _).symm.trans H; rw [hy161]; with_reducible exact H2_) | (have H2_ := (Option.bind_some _ _).symm.trans H; with_reducible exact H2_) | with_reducible exact H | (rw [hy161]; exact H) | exact H
  have Ny161 := Aside0.mk hy161
  clear hy161
  obtain rfl := Option.some.inj H
  go_enter Try.func89, Try.ntmps89
  go_wp2_with (first | ((with_reducible refine gate_dst (N := 5) rfl ?_); refine Kd.R_lit (Kd.int .i64) _ 3 ?hg (N := 5) ?hd (xs := ([] : List Int)) (inner := []) (ok := fun _ => True) (okp := fun _ => True) ?hr ?hp (fun _ hk => hk) trivial (Below.refl _ _) (Nat.le_refl _) (by simp) ?_; (case hd => rfl); (case hg => rfl); (case hr => first | (go_simp; done) | (go_simp; rfl)); (case hp => exact (Reps.none _ _)); intro v159 w3 ho4 hb hg_ hnew_; clear hg_ hnew_; (first | rw [← Ny158.out] at ho4 | (simp only [Int.reduceToNat] at ho4; rw [← Ny158.out] at ho4)); have n0_ := Aside0.mk (Kd.R_lower ho4 (below_size (by repeat (first | (with_reducible first | exact HB.out | apply below_alloc | apply pw_below_drewN | apply below_drew1) | exact HB.out)))); have n1_ := Aside0.mk (below_step (by repeat (first | (with_reducible first | exact HB.out | apply below_alloc | apply pw_below_drewN | apply below_drew1) | exact HB.out)) hb); clear HB; have HO160 := n0_; have HB := n1_; clear n0_ n1_; clear hb ho4) | ((with_reducible refine gate_builtin (b := .append) (xs := #[.tmp 5, .tmp 6]) rfl ?_); at_builtin; refine Kd.R_append_rows (Kd.int .i64) (w0 := w) w.heap.size rfl (.tmp 5) (.tmp 6) 65 3 (.int .i64 0) 8 rfl Try.underlying65 info3 rfl (by decide) (by omega) v159 y158 l0 _ _ _ (fun _ => True) (fun _ => False) rfl rfl ?aO ?aR (fun _ _ h => h) (fun _ h => h.elim) ?aF ?aB ?aS ?aL ?_; (case aR => repeat (first | exact (Kd.C_below HR0.out HB.out) | (with_reducible refine Kd.C_alloc ?_ _) | (with_reducible refine Kd.C_drewN ?_ _) | (with_reducible refine Kd.C_drew ?_))); (case aB => exact (by repeat (first | (with_reducible first | exact HB.out | apply below_alloc | apply pw_below_drewN | apply below_drew1) | exact HB.out))); (case aF => exact (fun _ _ => trivial)); (case aO => exact (by (with_reducible repeat (first | apply Kd.R_alloc | apply Kd.R_drewN | apply Kd.R_drew)); exact HO160.out)); (case aS => exact (below_size (by repeat (first | (with_reducible first | exact HB.out | apply below_alloc | apply pw_below_drewN | apply below_drew1) | exact HB.out)))); (case aL => have := LMc2.out; omega); intro v162 w5 ho hb hg hat; rw [← Ny161.out] at ho; have n0_ := Aside0.mk (hb); have n1_ := Aside0.mk (ho); clear HB; clear HO160; have HB := n0_; have HO163 := n1_; clear n0_ n1_; clear ho hb hg hat))
  go_ret
  exact ⟨_, by first | rfl | (simp [errW_none, errW_some] <;> rfl) | (simp [*, errW_none, errW_some] <;> rfl), by (with_reducible repeat (first | apply Kd.R_alloc | apply Kd.R_drewN | apply Kd.R_drew)); exact HO163.out, by repeat (first | (with_reducible first | exact HB.out | apply below_alloc | apply pw_below_drewN | apply below_drew1) | exact HB.out)⟩
 ·rw [if_neg c2] at H
  exact absurd H (by simp)
end Go.Proofs.Ytjfkompfkgjdaaa.PC
end
section
/- The diagram that a hook on top of it leads to another one, as the program finds it: plain. -/
namespace Go.Proofs.Ytjfkompfkgjdaaa.PC
open Go.RowKit Go.Proofs.YtjfkompfkgjdaaaW.PrintWords Go.Proofs.YtjfkompfkgjdaaaW.PrintLast Go.Proofs.YtjfkompfkgjdaaaW.PrintMore
/-- an arch opened: its ends take the places of the ends of another strand -/
def plait_open (d : List Int) (p q e0 e1 : Int) : List Int := (((d.set e0.toNat p).set p.toNat e0).set e1.toNat q).set q.toNat e1
/-- is it the one? -/
def plait_try (k : Nat) (d : List Int) (n : Nat) (i want : Int) (o : List Int) : Option (Option (List Int)) :=
  (plait_diagram_arches.f k o).bind fun a => if a.2 = true then ((plait_diagram_height.f k o).bind fun h => if h = want then ((plait_hook.f k (n : Int) i).bind fun hk => (plait_diagram_product.f hk o).bind fun b => if b.2 = 0 then ((plait_diagram_int_69.f k b.1 d).bind fun eq => if eq = true then some (some o) else some none) else some none) else some none) else some none
def plait_ends (k : Nat) (d : List Int) (n : Nat) (i want p q : Int) : Nat → Option (Option (List Int))
  | 0 => (plait_try k d n i want (plait_open d p q i (i + 1))).bind fun r => if r.isSome = true then some r else ((plait_try k d n i want (plait_open d p q (i + 1) i)).bind fun s => some s)
  | 1 => (plait_try k d n i want (plait_open d p q (i + 1) i)).bind fun s => some s
  | _ => some none
def plait_search (k : Nat) (d : List Int) (n : Nat) (i want : Int) : Nat → Nat → Option (List Int)
  | 0, _ => some []
  | m + 1, p =>
    if (p : Int) = i ∨ (p : Int) = i + 1 ∨ rd d (p : Int) = i ∨ rd d (p : Int) = i + 1 then plait_search k d n i want m (p + 1)
    else if 0 ≤ rd d (p : Int) ∧ rd d (p : Int) < (d.length : Int) then ((plait_ends k d n i want (p : Int) (rd d (p : Int)) 0).bind fun r => if r.isSome = true then some (r.getD []) else plait_search k d n i want m (p + 1))
    else none
def plait_short (k : Nat) (l0 : List Int) (a1 : Int) : Option (List Int) :=
  if l0.length = 2 * (l0.length / 2) ∧ l0.length ≤ 1000 ∧ 0 ≤ a1 ∧ a1 + 1 < ((l0.length / 2 : Nat) : Int) then
    (if rd l0 a1 = a1 + 1 then ((plait_diagram_height.f k l0).bind fun ht => plait_search k l0 (l0.length / 2) a1 (wrap64 (ht - 1)) (2 * (l0.length / 2)) 0) else some [])
  else none
/-- the first hook that leads on -/
def plait_pick (k : Nat) (d : List Int) : Nat → Nat → Option (Option (Nat × List Int))
  | 0, _ => some none
  | c + 1, i => (plait_short k d (i : Int)).bind fun o => if o = [] then plait_pick k d c (i + 1) else some (some (i, o))
def plait_wordGo (k : Nat) : Nat → List Int → List Int → Option (List Int)
  | 0, _, _ => none
  | m + 1, d, out =>
    if d.length = 2 * (d.length / 2) ∧ d.length ≤ 1000 ∧ 0 < d.length then
      (plait_diagram_height.f k d).bind fun h => if h > 0 then ((plait_pick k d (d.length / 2 - 1) 0).bind fun r => if r.isSome = true then plait_wordGo k m (r.getD (0, [])).2 (out ++ [(((r.getD (0, [])).1 : Nat) : Int)]) else none) else some out
    else none
theorem plait_try_mono (k : Nat) (d : List Int) (n : Nat) (i want : Int) (o : List Int) : LeO (plait_try k d n i want o) (plait_try (k + 1) d n i want o) := by
  unfold plait_try
  exact LeO.bind (plait_diagram_arches.mono _ k) fun _ => LeO.ite (LeO.bind (plait_diagram_height.mono _ k) fun _ => LeO.ite (LeO.bind (plait_hook.mono _ _ k) fun _ => LeO.bind (LeO.refl _) fun _ => LeO.ite (LeO.bind (plait_diagram_int_69.mono _ _ k) fun _ => LeO.refl _) (LeO.refl _)) (LeO.refl _)) (LeO.refl _)
theorem plait_ends_mono (k : Nat) (d : List Int) (n : Nat) (i want p q : Int) : ∀ j, LeO (plait_ends k d n i want p q j) (plait_ends (k + 1) d n i want p q j)
  | 0 => by
    simp only [plait_ends]
    exact LeO.bind (plait_try_mono _ _ _ _ _ _) fun _ => LeO.ite (LeO.refl _) (LeO.bind (plait_try_mono _ _ _ _ _ _) fun _ => LeO.refl _)
  | 1 => by
    simp only [plait_ends]
    exact LeO.bind (plait_try_mono _ _ _ _ _ _) fun _ => LeO.refl _
  | _ + 2 => by simp only [plait_ends]; exact LeO.refl _
theorem plait_search_mono (k : Nat) (d : List Int) (n : Nat) (i want : Int) : ∀ m p, LeO (plait_search k d n i want m p) (plait_search (k + 1) d n i want m p)
  | 0, _ => by simp only [plait_search]; exact LeO.refl _
  | m + 1, p => by
    simp only [plait_search]
    exact LeO.ite (plait_search_mono k d n i want m _) (LeO.ite (LeO.bind (plait_ends_mono _ _ _ _ _ _ _ _) fun _ => LeO.ite (LeO.refl _) (plait_search_mono k d n i want m _)) (LeO.refl _))
theorem plait_short_mono (k : Nat) (l0 : List Int) (a1 : Int) : LeO (plait_short k l0 a1) (plait_short (k + 1) l0 a1) := by
  unfold plait_short
  exact LeO.ite (LeO.ite (LeO.bind (plait_diagram_height.mono _ k) fun _ => plait_search_mono _ _ _ _ _ _ _) (LeO.refl _)) (LeO.refl _)
theorem plait_pick_mono (k : Nat) (d : List Int) : ∀ c i, LeO (plait_pick k d c i) (plait_pick (k + 1) d c i)
  | 0, _ => by simp only [plait_pick]; exact LeO.refl _
  | c + 1, i => by
    simp only [plait_pick]
    exact LeO.bind (plait_short_mono _ _ _) fun _ => LeO.ite (plait_pick_mono k d c _) (LeO.refl _)
theorem plait_wordGo_mono (k : Nat) : ∀ m d out, LeO (plait_wordGo k m d out) (plait_wordGo (k + 1) m d out)
  | 0, _, _ => by simp only [plait_wordGo]; exact LeO.refl _
  | m + 1, d, out => by
    simp only [plait_wordGo]
    exact LeO.ite (LeO.bind (plait_diagram_height.mono _ k) fun _ => LeO.ite (LeO.bind (plait_pick_mono _ _ _ _) fun _ => LeO.ite (plait_wordGo_mono k m _ _) (LeO.refl _)) (LeO.refl _)) (LeO.refl _)
end Go.Proofs.Ytjfkompfkgjdaaa.PC
end
