/- Parts of the proof of LawPlaitWords, one behind the other: PCx0 PCg2 PCg4 MProd HWay HProd PCf66 MShort HShort HWord PCf55 PCf21 PCf28. -/
import Derived.Test.YtjfkompfkgjdaaaProg
import Derived.Below
import Derived.Deep.Draws
import Derived.Deep.AppendLies
import Derived.Maps.AppendAt
import Derived.OwnWalk
import Derived.Laws.BytesArg
import Derived.Laws.MakeOwn
import Derived.Laws.OwnMore
import Derived.Deep.OwnRows
import Derived.Tactics
import Derived.Lib.ConvBytes
import Derived.Laws.Slices
import Derived.WalkKit
import Derived.KernelRfl
import Derived.RowKit3
import Derived.Deep.LoopGhost
import Derived.Deep.QuietTactic
import Derived.BigQuiet
import Derived.WideLaws
import Derived.Deep.DeepCutAuto
import Derived.Deep.CutBlock
import Derived.Deep.RegionHeld3
import Derived.Laws.Rows
import Derived.Lib.AppendStr
import Derived.ArgAppend
import Derived.Laws.IdiomCopy
import Derived.OrdersHeld
import Derived.Laws.BitsLemmas
import Derived.RowKit
import Derived.Lib.Hide
import Derived.Lib.SliceRun
import Derived.Outline
import Derived.IntWalk
import Derived.Laws.IdiomRangeMap
import Derived.WalkSpells
import Derived.Test.YtjfkompfkgjdaaaJPlaitWords1
section
namespace Go.Proofs.Ytjfkompfkgjdaaa.PC
open Go.RowKit Go.Proofs.YtjfkompfkgjdaaaW.PrintWords Go.Proofs.YtjfkompfkgjdaaaW.PrintLast Go.Proofs.YtjfkompfkgjdaaaW.PrintMore
attribute [local go_sem] max2_int min2_int max_two min_two max_three min_three max_four min_four   -- for this text's walks alone
set_option linter.unusedVariables false
set_option linter.unusedSimpArgs false
def errW : Option Int → Value
  | none => .nilIface
  | some c => .iface 0 (.int .i64 c)
theorem errW_none : errW none = .nilIface := rfl
theorem errW_some (c : Int) : errW (some c) = .iface 0 (.int .i64 c) := rfl
theorem info3 : (Try.prog.info? 3).map (fun i => (i.zero, i.size, i.bytes)) = some (some (.int .i64 0), 1, 8) := by kernel_rfl
theorem info4 : (Try.prog.info? 4).map (fun i => (i.zero, i.size, i.bytes)) = some (some (.bool false), 1, 1) := by kernel_rfl
theorem info5 : (Try.prog.info? 5).map (fun i => (i.zero, i.size, i.bytes)) = some (some (.int .u8 0), 1, 1) := by kernel_rfl
theorem info22 : (Try.prog.info? 22).map (fun i => (i.zero, i.size, i.bytes)) = some (some (.slice none 0 0), 1, 24) := by kernel_rfl
theorem info71 : (Try.prog.info? 71).map (fun i => (i.zero, i.size, i.bytes)) = some (some (.agg #[(.slice none 0 0), (.slice none 0 0)]), 2, 48) := by kernel_rfl
def rd_L3 (xs : List (List Int)) (i : Int) : (List Int) := xs.getD i.toNat ([] : List Int)
theorem at_L3 {w : World} {A : Option Addr} {n : Nat} {xs : List (List Int)} (h : Kd.C (Kd.slice 3 (Kd.int .i64)) w A n xs) (i : Int) (h0 : 0 ≤ i) (h1 : i < n) : ∃ ad A0 c0, A = some ad ∧ w.cell? (ad.add i.toNat) = some (.slice A0 (rd_L3 xs i).length c0) ∧ (rd_L3 xs i).length ≤ c0 ∧ (Kd.int .i64).C w A0 (rd_L3 xs i).length (rd_L3 xs i) := by
  obtain ⟨ad, c, e, _, hK, hc0⟩ := Kd.C_get h ([] : List Int) i h0 h1
  have hc : ∀ j u, c[j]? = some u → w.cell? (ad.add (i.toNat * 1 + j)) = some u := hc0
  obtain ⟨A0, c0, rfl, l0, g0⟩ := hK
  exact ⟨ad, A0, c0, e, by have hq := hc 0 _ rfl; rwa [Nat.mul_one, Nat.add_zero] at hq, l0, g0⟩
/-! #### struct type 71 -/
structure S71 where
  f0 : (List Int)
  f1 : (List Int)
def z71 : S71 := ⟨([] : List Int), ([] : List Int)⟩
def k71 : Kd S71 := Kd.iso (Kd.pair (Kd.slice 3 (Kd.int .i64)) (Kd.slice 3 (Kd.int .i64))) (fun x : S71 => (x.f0, x.f1))
theorem k71_open {w : World} {x : S71} {cs : List Value} (h : k71.K w x cs) : ∃ A0 c0 A1 c1, cs = [.slice A0 x.f0.length c0, .slice A1 x.f1.length c1] ∧ x.f0.length ≤ c0 ∧ (Kd.int .i64).C w A0 x.f0.length x.f0 ∧ x.f1.length ≤ c1 ∧ (Kd.int .i64).C w A1 x.f1.length x.f1 := by
  obtain ⟨_, _, rfl, ⟨A0, c0, rfl, l0, g0⟩, ⟨A1, c1, rfl, l1, g1⟩⟩ := h
  exact ⟨A0, c0, A1, c1, rfl, l0, g0, l1, g1⟩
theorem k71_mk (w : World) (x : S71) {A0 : Option Addr} {c0 : Nat} (l0 : x.f0.length ≤ c0) (g0 : (Kd.int .i64).C w A0 x.f0.length x.f0) {A1 : Option Addr} {c1 : Nat} (l1 : x.f1.length ≤ c1) (g1 : (Kd.int .i64).C w A1 x.f1.length x.f1) : k71.K w x [.slice A0 x.f0.length c0, .slice A1 x.f1.length c1] := ⟨[.slice A0 x.f0.length c0], [.slice A1 x.f1.length c1], rfl, ⟨A0, c0, rfl, l0, g0⟩, ⟨A1, c1, rfl, l1, g1⟩⟩
theorem k71_openF {W : World} {ok : Nat → Prop} {x : S71} {cs : List Value} (h : Kd.FK k71 W ok x cs) : ∃ A0 c0 A1 c1, cs = [.slice A0 x.f0.length c0, .slice A1 x.f1.length c1] ∧ x.f0.length ≤ c0 ∧ Kd.F (Kd.int .i64) W ok A0 x.f0.length x.f0 ∧ x.f1.length ≤ c1 ∧ Kd.F (Kd.int .i64) W ok A1 x.f1.length x.f1 := by
  obtain ⟨A0, c0, A1, c1, rfl, l0, _, l1, _⟩ := k71_open (Kd.FK_now h)
  exact ⟨A0, c0, A1, c1, rfl, l0, (fun W' hW => by obtain ⟨A0_, c0_, A1_, c1_, he, l0_, g0_, l1_, g1_⟩ := k71_open (h W' hW); injection (Option.some.inj (show some (Value.slice A0 x.f0.length c0) = some (Value.slice A0_ x.f0.length c0_) from congrArg (fun l => l[0]?) he)) with ha_ _ _; rw [ha_]; exact g0_), l1, (fun W' hW => by obtain ⟨A0_, c0_, A1_, c1_, he, l0_, g0_, l1_, g1_⟩ := k71_open (h W' hW); injection (Option.some.inj (show some (Value.slice A1 x.f1.length c1) = some (Value.slice A1_ x.f1.length c1_) from congrArg (fun l => l[1]?) he)) with ha_ _ _; rw [ha_]; exact g1_)⟩
theorem k71_mkF (W : World) (ok : Nat → Prop) (x : S71) {A0 : Option Addr} {c0 : Nat} (l0 : x.f0.length ≤ c0) (g0 : Kd.F (Kd.int .i64) W ok A0 x.f0.length x.f0) {A1 : Option Addr} {c1 : Nat} (l1 : x.f1.length ≤ c1) (g1 : Kd.F (Kd.int .i64) W ok A1 x.f1.length x.f1) : Kd.FK k71 W ok x [.slice A0 x.f0.length c0, .slice A1 x.f1.length c1] := fun W2 hW => k71_mk W2 x l0 (g0 W2 hW) l1 (g1 W2 hW)
def rd_T71 (xs : List S71) (i : Int) : S71 := xs.getD i.toNat z71
theorem at_T71 {w : World} {A : Option Addr} {n : Nat} {xs : List S71} (h : Kd.C k71 w A n xs) (i : Int) (h0 : 0 ≤ i) (h1 : i < n) : ∃ ad A0 c0 A1 c1, A = some ad ∧ w.cell? (ad.add (i.toNat * 2)) = some (.slice A0 (rd_T71 xs i).f0.length c0) ∧ w.cell? ⟨(ad.add (i.toNat * 2)).block, (ad.add (i.toNat * 2)).off + 1, none⟩ = some (.slice A1 (rd_T71 xs i).f1.length c1) ∧ (rd_T71 xs i).f0.length ≤ c0 ∧ (Kd.int .i64).C w A0 (rd_T71 xs i).f0.length (rd_T71 xs i).f0 ∧ (rd_T71 xs i).f1.length ≤ c1 ∧ (Kd.int .i64).C w A1 (rd_T71 xs i).f1.length (rd_T71 xs i).f1 := by
  obtain ⟨ad, c, e, _, hK, hc0⟩ := Kd.C_get h z71 i h0 h1
  have hc : ∀ j u, c[j]? = some u → w.cell? (ad.add (i.toNat * 2 + j)) = some u := hc0
  obtain ⟨A0, c0, A1, c1, rfl, l0, g0, l1, g1⟩ := k71_open hK
  exact ⟨ad, A0, c0, A1, c1, e, hc 0 _ rfl, by rw [← add_field _ _ 1 (by omega)]; exact hc 1 _ rfl, l0, g0, l1, g1⟩
end Go.Proofs.Ytjfkompfkgjdaaa.PC
end
section
namespace Go.Proofs.Ytjfkompfkgjdaaa.PC
open Go.RowKit Go.Proofs.YtjfkompfkgjdaaaW.PrintWords Go.Proofs.YtjfkompfkgjdaaaW.PrintLast Go.Proofs.YtjfkompfkgjdaaaW.PrintMore
attribute [local go_sem] max2_int min2_int max_two min_two max_three min_three max_four min_four   -- for this text's walks alone
set_option linter.unusedVariables false
set_option linter.unusedSimpArgs false
/-! ### plait_border: function 70 -/
mutual
def plait_border.l0 : Nat → Int → List Int → Int → Int → Option (List Int)
 | 0, _, _, _, _ => none
 | k + 1, x0, x3, x6, x7 => if x7 < x6 then (if x3.length < 17592186044416 then (plait_border.l0 k x0 (x3 ++ [x7]) x6 (wrap64 (x7 + 1))) else (none)) else (plait_border.l1 k x0 x3 x0 0)
def plait_border.l1 : Nat → Int → List Int → Int → Int → Option (List Int)
 | 0, _, _, _, _ => none
 | k + 1, x0, x3, x15, x16 => if x16 < x15 then (if x3.length < 17592186044416 then (plait_border.l1 k x0 (x3 ++ [wrap64 ((wrap64 ((wrap64 (2 * x0)) - 1)) - x16)]) x15 (wrap64 (x16 + 1))) else (none)) else (some x3)
end
def plait_border.f (k : Nat) (a0 : Int) : Option (List Int) := plait_border.l0 k a0 ([] : List Int) a0 0
theorem plait_border.mono_l : ∀ k, (∀ y0 y1 y2 y3, LeO (plait_border.l0 k y0 y1 y2 y3) (plait_border.l0 (k + 1) y0 y1 y2 y3)) ∧ (∀ y0 y1 y2 y3, LeO (plait_border.l1 k y0 y1 y2 y3) (plait_border.l1 (k + 1) y0 y1 y2 y3))
 | 0 => ⟨fun _ _ _ _ r h => by simp [plait_border.l0] at h, fun _ _ _ _ r h => by simp [plait_border.l1] at h⟩
 | k + 1 => by
  obtain ⟨ih0, ih1⟩ := plait_border.mono_l k
  refine ⟨?_, ?_⟩
  ·intro y0 y1 y2 y3
   unfold plait_border.l0
   repeat' first
   | (with_reducible exact ih0 _ _ _ _)
   | (with_reducible exact ih1 _ _ _ _)
   | (with_reducible exact LeO.refl _)
   | (with_reducible exact LeO.none _)
   | (with_reducible refine LeO.ite ?_ ?_)
   | (with_reducible refine LeO.bind ?_ (fun _ => ?_))
   | exact ih0 _ _ _ _
   | exact ih1 _ _ _ _
   | exact LeO.none _
   | refine LeO.ite ?_ ?_
   | refine LeO.bind ?_ (fun _ => ?_)
  ·intro y0 y1 y2 y3
   unfold plait_border.l1
   repeat' first
   | (with_reducible exact ih0 _ _ _ _)
   | (with_reducible exact ih1 _ _ _ _)
   | (with_reducible exact LeO.refl _)
   | (with_reducible exact LeO.none _)
   | (with_reducible refine LeO.ite ?_ ?_)
   | (with_reducible refine LeO.bind ?_ (fun _ => ?_))
   | exact ih0 _ _ _ _
   | exact ih1 _ _ _ _
   | exact LeO.none _
   | refine LeO.ite ?_ ?_
   | refine LeO.bind ?_ (fun _ => ?_)
theorem plait_border.mono : ∀ a0 k, LeO (plait_border.f k a0) (plait_border.f (k + 1) a0) := by
 intro a0 k
 obtain ⟨ih0, ih1⟩ := plait_border.mono_l k
 unfold plait_border.f
 repeat' first
   | (with_reducible exact ih0 _ _ _ _)
   | (with_reducible exact ih1 _ _ _ _)
   | (with_reducible exact LeO.refl _)
   | (with_reducible exact LeO.none _)
   | (with_reducible refine LeO.ite ?_ ?_)
   | (with_reducible refine LeO.bind ?_ (fun _ => ?_))
   | exact ih0 _ _ _ _
   | exact ih1 _ _ _ _
   | exact LeO.none _
   | refine LeO.ite ?_ ?_
   | refine LeO.bind ?_ (fun _ => ?_)
set_option maxHeartbeats 8000000 in
set_option maxRecDepth 100000 in
theorem plait_border.calls (k : Nat) (a0 : Int) (r : List Int) (w : World) (h : plait_border.f k a0 = some r) :
  Calls Try.prog 70 #[.int .i64 a0] w fun e w' => ∃ v0_ : Value, e = .returned (v0_) ∧ Kd.R (Kd.int .i64) 3 w' w.heap.size (fun _ => True) v0_ r ∧ Below w.heap.size w w' := by
 have HB := Aside0.mk (Below.refl w.heap.size w)
 have H : (plait_border.l0 k a0 ([] : List Int) a0 0) = some r := h
 clear h
 have H' := Aside0.mk H
 clear H
 go_enter Try.func70, Try.ntmps70
 go_wp2
 go_loopg [3, 7] k (fun kq v3 v7 w' => ∃ (x3_1 : List Int) (x7_1 : Int), v7 = .int .i64 x7_1 ∧ Aside0 (plait_border.l0 kq a0 x3_1 a0 x7_1 = some r) ∧ Aside0 (kq ≤ k) ∧ Aside0 (Kd.R (Kd.int .i64) 3 w' w.heap.size (fun _ => True) v3 x3_1) ∧ Aside0 (Below w.heap.size w w'))
 case atStart => exact ⟨(([] : List Int)), (0), (by first | rfl | (simp; done) | (simp [*]; done)), H', ⟨Nat.le_refl _⟩, ⟨by first | exact Kd.R_nil _ _ _ _ _ | exact Kd.N_nil _ _ _ _ _ | exact Kd.V_nil _ _ _ _ _ | exact Kd.Q_nil _ _ _ _ _ | exact Kd.S_nil _ _ _ _ _⟩, ⟨by repeat (first | (with_reducible first | exact HB.out | apply below_alloc | apply pw_below_drewN | apply below_drew1) | exact HB.out)⟩⟩
 case round =>
  clear H'
  obtain ⟨x3_1, x7_1, rfl, HA, HK1, HO_3, HB⟩ := hrel
  cases gk with
  | zero => exact absurd HA.out (by simp [plait_border.l0])
  | succ k1 =>
   have H := HA.out
   clear HA
   simp only [plait_border.l0] at H
   by_cases c2 : x7_1 < a0
   ·rw [if_pos c2] at H
    have c2b0 : decide (x7_1 < a0) = true := decide_eq_true c2
    clear c2
    by_cases c3 : x3_1.length < 17592186044416
    ·rw [if_pos c3] at H
     have LMc3 := Aside0.mk c3
     clear c3
     obtain ⟨y101, hy101⟩ : ∃ y_ : List Int, y_ = (x3_1 ++ [x7_1]) := ⟨_, rfl⟩
     replace H : (plait_border.l0 k1 a0 y101 a0 (wrap64 (x7_1 + 1))) = some r := by first | (rw [hy101]; with_reducible exact H) | (have H2_ := (Option.bind_some _ _).symm.trans H; rw [hy101]; with_reducible exact H2_) | (have H2_ := (Option.bind_some _ _).symm.trans H; with_reducible exact H2_) | with_reducible exact H | (rw [hy101]; exact H) | exact H
     have Ny101 := Aside0.mk hy101
     clear hy101
     have H' := Aside0.mk H
     clear H
     go_wp2_with (first | ((with_reducible refine gate_builtin (b := .append) (xs := #[.tmp 10, .tmp 12]) rfl ?_); at_builtin; refine Kd.R_append (Kd.int .i64) (w0 := w) w.heap.size rfl (.tmp 10) (.tmp 12) 22 3 (.int .i64 0) 8 rfl Try.underlying22 info3 rfl (by decide) (by omega) u3 x3_1 x7_1 [.int .i64 x7_1] (fun _ => True) (fun _ => False) rfl rfl ?aP (fun _ hk => hk.elim) ?aF ?aO ?aB ?aS ?aL ?_; (case aP => exact rfl); (case aB => exact (by repeat (first | (with_reducible first | exact HB.out | apply below_alloc | apply pw_below_drewN | apply below_drew1) | exact HB.out))); (case aF => exact (fun _ _ => trivial)); (case aO => exact (by (with_reducible repeat (first | apply Kd.R_alloc | apply Kd.R_drewN | apply Kd.R_drew)); exact HO_3.out)); (case aS => exact (below_size (by repeat (first | (with_reducible first | exact HB.out | apply below_alloc | apply pw_below_drewN | apply below_drew1) | exact HB.out)))); (case aL => have := LMc3.out; omega); intro v102 w4 ho hb hg hat; rw [← Ny101.out] at ho; have n0_ := Aside0.mk (hb); have n1_ := Aside0.mk (ho); clear HB; clear HO_3; have HB := n0_; have HO103 := n1_; clear n0_ n1_; clear ho hb hg hat))
     go_roundg k1
     case measure => have := HK1.out; omega
     case rel => exact ⟨(y101), (wrap64 (x7_1 + 1)), (by first | rfl | (simp; done) | (simp [*]; done)), H', ⟨by have := HK1.out; omega⟩, ⟨by (with_reducible repeat (first | apply Kd.R_alloc | apply Kd.R_drewN | apply Kd.R_drew)); exact HO103.out⟩, ⟨by repeat (first | (with_reducible first | exact HB.out | apply below_alloc | apply pw_below_drewN | apply below_drew1) | exact HB.out)⟩⟩
    ·rw [if_neg c3] at H
     exact absurd H (by simp)
   ·rw [if_neg c2] at H
    have c2b0 : decide (x7_1 < a0) = false := decide_eq_false c2
    clear c2
    have H' := Aside0.mk H
    clear H
    go_wp2
    go_loopg [3, 16] k1 (fun kq v3 v16 w' => ∃ (x3_2 : List Int) (x16_2 : Int), v16 = .int .i64 x16_2 ∧ Aside0 (plait_border.l1 kq a0 x3_2 a0 x16_2 = some r) ∧ Aside0 (kq ≤ k1) ∧ Aside0 (Kd.R (Kd.int .i64) 3 w' w.heap.size (fun _ => True) v3 x3_2) ∧ Aside0 (Below w.heap.size w w'))
    case atStart => exact ⟨(x3_1), (0), (by first | rfl | (simp; done) | (simp [*]; done)), H', ⟨Nat.le_refl _⟩, ⟨by (with_reducible repeat (first | apply Kd.R_alloc | apply Kd.R_drewN | apply Kd.R_drew)); exact HO_3.out⟩, ⟨by repeat (first | (with_reducible first | exact HB.out | apply below_alloc | apply pw_below_drewN | apply below_drew1) | exact HB.out)⟩⟩
    case round =>
     clear H'
     try clear c2
     try clear c2b0
     try clear p2
     try clear c3
     obtain ⟨x3_2, x16_2, rfl, HA, HK2, HO_3, HB⟩ := hrel
     cases gk with
     | zero => exact absurd HA.out (by simp [plait_border.l1])
     | succ k2 =>
      have H := HA.out
      clear HA
      simp only [plait_border.l1] at H
      by_cases c5 : x16_2 < a0
      ·rw [if_pos c5] at H
       have c5b0 : decide (x16_2 < a0) = true := decide_eq_true c5
       clear c5
       by_cases c6 : x3_2.length < 17592186044416
       ·rw [if_pos c6] at H
        have LMc6 := Aside0.mk c6
        clear c6
        obtain ⟨y104, hy104⟩ : ∃ y_ : List Int, y_ = (x3_2 ++ [wrap64 ((wrap64 ((wrap64 (2 * a0)) - 1)) - x16_2)]) := ⟨_, rfl⟩
        replace H : (plait_border.l1 k2 a0 y104 a0 (wrap64 (x16_2 + 1))) = some r := by first | (rw [hy104]; with_reducible exact H) | (have H2_ := (Option.bind_some _ _).symm.trans H; rw [hy104]; with_reducible exact H2_) | (have H2_ := (Option.bind_some _ _).symm.trans H; with_reducible exact H2_) | with_reducible exact H | (rw [hy104]; exact H) | exact H
        have Ny104 := Aside0.mk hy104
        clear hy104
        have H' := Aside0.mk H
        clear H
        go_wp2_with (first | ((with_reducible refine gate_builtin (b := .append) (xs := #[.tmp 19, .tmp 25]) rfl ?_); at_builtin; refine Kd.R_append (Kd.int .i64) (w0 := w) w.heap.size rfl (.tmp 19) (.tmp 25) 22 3 (.int .i64 0) 8 rfl Try.underlying22 info3 rfl (by decide) (by omega) u3 x3_2 (wrap64 ((wrap64 ((wrap64 (2 * a0)) - 1)) - x16_2)) [.int .i64 (wrap64 ((wrap64 ((wrap64 (2 * a0)) - 1)) - x16_2))] (fun _ => True) (fun _ => False) rfl rfl ?aP (fun _ hk => hk.elim) ?aF ?aO ?aB ?aS ?aL ?_; (case aP => exact rfl); (case aB => exact (by repeat (first | (with_reducible first | exact HB.out | apply below_alloc | apply pw_below_drewN | apply below_drew1) | exact HB.out))); (case aF => exact (fun _ _ => trivial)); (case aO => exact (by (with_reducible repeat (first | apply Kd.R_alloc | apply Kd.R_drewN | apply Kd.R_drew)); exact HO_3.out)); (case aS => exact (below_size (by repeat (first | (with_reducible first | exact HB.out | apply below_alloc | apply pw_below_drewN | apply below_drew1) | exact HB.out)))); (case aL => have := LMc6.out; omega); intro v105 w7 ho hb hg hat; rw [← Ny104.out] at ho; have n0_ := Aside0.mk (hb); have n1_ := Aside0.mk (ho); clear HB; clear HO_3; have HB := n0_; have HO106 := n1_; clear n0_ n1_; clear ho hb hg hat))
        go_roundg k2
        case measure => have := HK1.out; have := HK2.out; omega
        case rel => exact ⟨(y104), (wrap64 (x16_2 + 1)), (by first | rfl | (simp; done) | (simp [*]; done)), H', ⟨by have := HK1.out; have := HK2.out; omega⟩, ⟨by (with_reducible repeat (first | apply Kd.R_alloc | apply Kd.R_drewN | apply Kd.R_drew)); exact HO106.out⟩, ⟨by repeat (first | (with_reducible first | exact HB.out | apply below_alloc | apply pw_below_drewN | apply below_drew1) | exact HB.out)⟩⟩
       ·rw [if_neg c6] at H
        exact absurd H (by simp)
      ·rw [if_neg c5] at H
       have c5b0 : decide (x16_2 < a0) = false := decide_eq_false c5
       clear c5
       obtain rfl := Option.some.inj H
       go_wp2
       go_ret
       exact ⟨_, by first | rfl | (simp [errW_none, errW_some] <;> rfl) | (simp [*, errW_none, errW_some] <;> rfl), by (with_reducible repeat (first | apply Kd.R_alloc | apply Kd.R_drewN | apply Kd.R_drew)); exact HO_3.out, by repeat (first | (with_reducible first | exact HB.out | apply below_alloc | apply pw_below_drewN | apply below_drew1) | exact HB.out)⟩
/-! ### plait_diagram_size: function 72 -/
def plait_diagram_size.f (l0 : List Int) : Option (Int) := some (wrap64 ((l0.length : Int) / 2))
set_option maxHeartbeats 8000000 in
set_option maxRecDepth 100000 in
theorem plait_diagram_size.calls (A0 : Option Addr) (c0 : Nat) (l0 : List Int) (r : Int) (w : World) (hr0 : Kd.C (Kd.int .i64) w A0 l0.length l0) (hc0 : l0.length ≤ c0) (h : plait_diagram_size.f l0 = some r) :
  Calls Try.prog 72 #[.slice A0 l0.length c0] w fun e w' => e = .returned (.int .i64 r) ∧ Drawn0 w w' := by
 have HR0 := Aside0.mk hr0
 have HC0 := Aside0.mk hc0
 clear hr0 hc0
 have H : (some (wrap64 ((l0.length : Int) / 2))) = some r := h
 clear h
 obtain rfl := Option.some.inj H
 go_enter Try.func72, Try.ntmps72
 go_wp2
 go_ret
 exact ⟨by first | rfl | (simp; done) | (simp [*]; done), by repeat (first | exact Drawn0.refl _ | apply Drawn0.step)⟩
/-! ### plait_diagram_arches: function 71 -/
mutual
def plait_diagram_arches.j0 : Nat → List Int → Bool → Option (ByteArray × Bool)
 | 0, _, _ => none
 | k + 1, x0, x17 => if x17 = true then (some ((⟨#[]⟩ : ByteArray), false)) else ((plait_diagram_size.f x0).bind fun t107 => ((plait_border.f k t107).bind fun t108 => (plait_diagram_arches.l0 k x0 ([] : List Int) ([] : List Int) t108 (t108.length : Int) 0)))
def plait_diagram_arches.l0 : Nat → List Int → List Int → List Int → List Int → Int → Int → Option (ByteArray × Bool)
 | 0, _, _, _, _, _, _ => none
 | k + 1, x0, x4, x5, x20, x21, x22 => if x22 < x21 then (if 0 ≤ x22 then (if x22 < (x20.length : Int) then (if 0 ≤ (rd x20 x22) then (if (rd x20 x22) < (x0.length : Int) then (if (rd x0 (rd x20 x22)) < 0 then (plait_diagram_arches.j2 k x0 x4 x5 (rd x20 x22) (rd x0 (rd x20 x22)) x20 x21 x22 true) else (if (rd x0 (rd x20 x22)) ≥ (x0.length : Int) then (plait_diagram_arches.j2 k x0 x4 x5 (rd x20 x22) (rd x0 (rd x20 x22)) x20 x21 x22 true) else (if (rd x0 (rd x20 x22)) = (rd x20 x22) then (plait_diagram_arches.j2 k x0 x4 x5 (rd x20 x22) (rd x0 (rd x20 x22)) x20 x21 x22 true) else (if 0 ≤ (rd x0 (rd x20 x22)) then (if (rd x0 (rd x20 x22)) < (x0.length : Int) then (plait_diagram_arches.j2 k x0 x4 x5 (rd x20 x22) (rd x0 (rd x20 x22)) x20 x21 x22 ((rd x0 (rd x0 (rd x20 x22))) != (rd x20 x22))) else (none)) else (none))))) else (none)) else (none)) else (none)) else (none)) else (some (strOfNums x5, ((x4.length : Int) == 0)))
def plait_diagram_arches.j2 : Nat → List Int → List Int → List Int → Int → Int → List Int → Int → Int → Bool → Option (ByteArray × Bool)
 | 0, _, _, _, _, _, _, _, _, _ => none
 | k + 1, x0, x4, x5, x7, x8, x20, x21, x22, x37 => if x37 = true then (some ((⟨#[]⟩ : ByteArray), false)) else (if (x4.length : Int) > 0 then (if 0 ≤ (wrap64 ((x4.length : Int) - 1)) then (if (wrap64 ((x4.length : Int) - 1)) < (x4.length : Int) then (if (rd x4 (wrap64 ((x4.length : Int) - 1))) = x8 then (if (wrap64 ((x4.length : Int) - 1)) ≤ (x4.length : Int) then (if x5.length < 140737488355328 then (plait_diagram_arches.l0 k x0 (x4.take ((wrap64 ((x4.length : Int) - 1)) : Int).toNat) (x5 ++ [41]) x20 x21 (wrap64 (x22 + 1))) else (none)) else (none)) else (if x4.length < 17592186044416 then (if x5.length < 140737488355328 then (plait_diagram_arches.l0 k x0 (x4 ++ [x7]) (x5 ++ [40]) x20 x21 (wrap64 (x22 + 1))) else (none)) else (none))) else (none)) else (none)) else (if x4.length < 17592186044416 then (if x5.length < 140737488355328 then (plait_diagram_arches.l0 k x0 (x4 ++ [x7]) (x5 ++ [40]) x20 x21 (wrap64 (x22 + 1))) else (none)) else (none)))
end
def plait_diagram_arches.f (k : Nat) (l0 : List Int) : Option (ByteArray × Bool) := if (l0.length : Int) = 0 then (plait_diagram_arches.j0 k l0 true) else (plait_diagram_arches.j0 k l0 (((l0.length : Int) % 2) != 0))
theorem plait_diagram_arches.mono_l : ∀ k, (∀ y0 y1, LeO (plait_diagram_arches.j0 k y0 y1) (plait_diagram_arches.j0 (k + 1) y0 y1)) ∧ (∀ y0 y1 y2 y3 y4 y5, LeO (plait_diagram_arches.l0 k y0 y1 y2 y3 y4 y5) (plait_diagram_arches.l0 (k + 1) y0 y1 y2 y3 y4 y5)) ∧ (∀ y0 y1 y2 y3 y4 y5 y6 y7 y8, LeO (plait_diagram_arches.j2 k y0 y1 y2 y3 y4 y5 y6 y7 y8) (plait_diagram_arches.j2 (k + 1) y0 y1 y2 y3 y4 y5 y6 y7 y8))
 | 0 => ⟨fun _ _ r h => by simp [plait_diagram_arches.j0] at h, fun _ _ _ _ _ _ r h => by simp [plait_diagram_arches.l0] at h, fun _ _ _ _ _ _ _ _ _ r h => by simp [plait_diagram_arches.j2] at h⟩
 | k + 1 => by
  obtain ⟨ih0, ih1, ih2⟩ := plait_diagram_arches.mono_l k
  refine ⟨?_, ?_, ?_⟩
  ·intro y0 y1
   unfold plait_diagram_arches.j0
   repeat' first
   | (with_reducible exact ih0 _ _)
   | (with_reducible exact ih1 _ _ _ _ _ _)
   | (with_reducible exact ih2 _ _ _ _ _ _ _ _ _)
   | (with_reducible exact plait_border.mono _ _)
   | (with_reducible exact LeO.refl _)
   | (with_reducible exact LeO.none _)
   | (with_reducible refine LeO.ite ?_ ?_)
   | (with_reducible refine LeO.bind ?_ (fun _ => ?_))
   | exact ih0 _ _
   | exact ih1 _ _ _ _ _ _
   | exact ih2 _ _ _ _ _ _ _ _ _
   | exact plait_border.mono _ _
   | exact LeO.none _
   | refine LeO.ite ?_ ?_
   | refine LeO.bind ?_ (fun _ => ?_)
  ·intro y0 y1 y2 y3 y4 y5
   unfold plait_diagram_arches.l0
   repeat' first
   | (with_reducible exact ih0 _ _)
   | (with_reducible exact ih1 _ _ _ _ _ _)
   | (with_reducible exact ih2 _ _ _ _ _ _ _ _ _)
   | (with_reducible exact plait_border.mono _ _)
   | (with_reducible exact LeO.refl _)
   | (with_reducible exact LeO.none _)
   | (with_reducible refine LeO.ite ?_ ?_)
   | (with_reducible refine LeO.bind ?_ (fun _ => ?_))
   | exact ih0 _ _
   | exact ih1 _ _ _ _ _ _
   | exact ih2 _ _ _ _ _ _ _ _ _
   | exact plait_border.mono _ _
   | exact LeO.none _
   | refine LeO.ite ?_ ?_
   | refine LeO.bind ?_ (fun _ => ?_)
  ·intro y0 y1 y2 y3 y4 y5 y6 y7 y8
   unfold plait_diagram_arches.j2
   repeat' first
   | (with_reducible exact ih0 _ _)
   | (with_reducible exact ih1 _ _ _ _ _ _)
   | (with_reducible exact ih2 _ _ _ _ _ _ _ _ _)
   | (with_reducible exact plait_border.mono _ _)
   | (with_reducible exact LeO.refl _)
   | (with_reducible exact LeO.none _)
   | (with_reducible refine LeO.ite ?_ ?_)
   | (with_reducible refine LeO.bind ?_ (fun _ => ?_))
   | exact ih0 _ _
   | exact ih1 _ _ _ _ _ _
   | exact ih2 _ _ _ _ _ _ _ _ _
   | exact plait_border.mono _ _
   | exact LeO.none _
   | refine LeO.ite ?_ ?_
   | refine LeO.bind ?_ (fun _ => ?_)
theorem plait_diagram_arches.mono : ∀ a0 k, LeO (plait_diagram_arches.f k a0) (plait_diagram_arches.f (k + 1) a0) := by
 intro a0 k
 obtain ⟨ih0, ih1, ih2⟩ := plait_diagram_arches.mono_l k
 unfold plait_diagram_arches.f
 repeat' first
   | (with_reducible exact ih0 _ _)
   | (with_reducible exact ih1 _ _ _ _ _ _)
   | (with_reducible exact ih2 _ _ _ _ _ _ _ _ _)
   | (with_reducible exact plait_border.mono _ _)
   | (with_reducible exact LeO.refl _)
   | (with_reducible exact LeO.none _)
   | (with_reducible refine LeO.ite ?_ ?_)
   | (with_reducible refine LeO.bind ?_ (fun _ => ?_))
   | exact ih0 _ _
   | exact ih1 _ _ _ _ _ _
   | exact ih2 _ _ _ _ _ _ _ _ _
   | exact plait_border.mono _ _
   | exact LeO.none _
   | refine LeO.ite ?_ ?_
   | refine LeO.bind ?_ (fun _ => ?_)
set_option maxHeartbeats 8000000 in
set_option maxRecDepth 100000 in
theorem plait_diagram_arches.calls (k : Nat) (A0 : Option Addr) (c0 : Nat) (l0 : List Int) (r1 : ByteArray) (r2 : Bool) (w : World) (hr0 : Kd.C (Kd.int .i64) w A0 l0.length l0) (hc0 : l0.length ≤ c0) (h : plait_diagram_arches.f k l0 = some (r1, r2)) :
  Calls Try.prog 71 #[.slice A0 l0.length c0] w fun e w' => e = .returned (.tuple #[.string r1, .bool r2]) ∧ Below w.heap.size w w' := by
 have HR0 := Aside0.mk hr0
 have HC0 := Aside0.mk hc0
 clear hr0 hc0
 have HB := Aside0.mk (Below.refl w.heap.size w)
 have H : (if (l0.length : Int) = 0 then (plait_diagram_arches.j0 k l0 true) else (plait_diagram_arches.j0 k l0 (((l0.length : Int) % 2) != 0))) = some (r1, r2) := h
 clear h
 have HC2 := Aside0.mk H
 clear H
 go_enter Try.func71, Try.ntmps71
 go_upto_region 1 with (fail)
 go_cut [17] (fun v17 wc => ∃ (kq : Nat) (x17_1 : Bool), v17 = .bool x17_1 ∧ Aside0 (plait_diagram_arches.j0 kq l0 x17_1 = some (r1, r2)) ∧ Aside0 (kq ≤ k) ∧ Aside0 (Below w.heap.size w wc))
 case first =>
  have H := HC2.out
  clear HC2
  by_cases c3 : (l0.length : Int) = 0
  ·rw [if_pos c3] at H
   have c3b0 : ((l0.length : Int) == 0) = true := beq_iff_eq.mpr c3
   have c3b1 : ((l0.length : Int) != 0) = false := bne_eq_false_iff_eq.mpr c3
   clear c3
   (first | rw [c3b0] | (simp only [i64_w, i32_w]; rw [c3b0]) | skip)
   have H' := Aside0.mk H
   clear H
   go_wp2
   go_meet
   case rel => exact ⟨_, (true), (by first | rfl | (simp; done) | (simp [*]; done)), H', ⟨by first | omega | exact Nat.le_refl _⟩, ⟨by repeat (first | (with_reducible first | exact HB.out | apply below_alloc | apply pw_below_drewN | apply below_drew1) | exact HB.out)⟩⟩
  ·rw [if_neg c3] at H
   have c3b0 : ((l0.length : Int) == 0) = false := beq_eq_false_iff_ne.mpr c3
   have c3b1 : ((l0.length : Int) != 0) = true := bne_iff_ne.mpr c3
   have c3b2 : ¬ (l0 = []) := fun h_ => c3 (by rw [h_]; rfl)
   (first | rw [c3b0] | (simp only [i64_w, i32_w]; rw [c3b0]) | skip)
   have H' := Aside0.mk H
   clear H
   go_wp2
   go_meet
   case rel => exact ⟨_, ((((l0.length : Int) % 2) != 0)), (by first | rfl | (simp; done) | (simp [*]; done)), H', ⟨by first | omega | exact Nat.le_refl _⟩, ⟨by repeat (first | (with_reducible first | exact HB.out | apply below_alloc | apply pw_below_drewN | apply below_drew1) | exact HB.out)⟩⟩
 case rest =>
  clear HC2
  try clear p2
  try clear c3
  try clear c3b0
  try clear c3b1
  try clear c3b2
  obtain ⟨kq, x17_1, rfl, HA, HJ1, HB⟩ := hcut
  cases kq with
  | zero => exact absurd HA.out (by simp [plait_diagram_arches.j0])
  | succ kj1 =>
   have H := HA.out
   clear HA
   simp only [plait_diagram_arches.j0] at H
   by_cases c4 : x17_1 = true
   ·subst c4
    have H1 : (some ((⟨#[]⟩ : ByteArray), false)) = some (r1, r2) := by rw [if_pos rfl] at H; exact H
    clear H
    have H := H1
    clear H1
    simp only [Option.some.injEq, Prod.mk.injEq] at H
    obtain ⟨rfl, rfl⟩ := H
    go_wp2
    go_ret2
    exact ⟨by first | rfl | (simp [errW_none, errW_some] <;> rfl) | (simp [*, errW_none, errW_some] <;> rfl), by repeat (first | (with_reducible first | exact HB.out | apply below_alloc | apply pw_below_drewN | apply below_drew1) | exact HB.out)⟩
   ·replace c4 := Bool.eq_false_iff.mpr c4
    subst c4
    have H1 : ((plait_diagram_size.f l0).bind fun t107 => ((plait_border.f kj1 t107).bind fun t108 => (plait_diagram_arches.l0 kj1 l0 ([] : List Int) ([] : List Int) t108 (t108.length : Int) 0))) = some (r1, r2) := by rw [if_neg (show ¬ (false = true) by decide)] at H; exact H
    clear H
    have H := H1
    clear H1
    replace H := Option.bind_eq_some_iff.mp H
    obtain ⟨t107, A50, H⟩ := H
    replace H : ((plait_border.f kj1 t107).bind fun t108 => (plait_diagram_arches.l0 kj1 l0 ([] : List Int) ([] : List Int) t108 (t108.length : Int) 0)) = some (r1, r2) := H
    have A5 := Aside0.mk A50
    clear A50
    replace H := Option.bind_eq_some_iff.mp H
    obtain ⟨t108, A60, H⟩ := H
    replace H : (plait_diagram_arches.l0 kj1 l0 ([] : List Int) ([] : List Int) t108 (t108.length : Int) 0) = some (r1, r2) := H
    have A6 := Aside0.mk A60
    clear A60
    have H' := Aside0.mk H
    clear H
    go_wp2_with (first | ((with_reducible refine gate_callee (f := 72) rfl ?_); refine goesL_ (some 19) rfl rfl Try.func72 (by kernel_rfl) rfl #[.slice A0 l0.length c0] rfl (by (try simp only [List.map_toArray, List.map_cons, List.map_nil]); first | done | rfl | (simp only [List.length_drop, List.length_take]; rfl)) ?_; (with_reducible refine (plait_diagram_size.calls _ _ l0 t107 _ ?side1 ?side2 A5.out).mono ?_); (case side1 => repeat (first | exact (Kd.C_below HR0.out HB.out) | (with_reducible refine Kd.C_alloc ?_ _) | (with_reducible refine Kd.C_drewN ?_ _) | (with_reducible refine Kd.C_drew ?_))); (case side2 => exact HC0.out); rintro e w' ⟨rfl, ⟨nd, rfl⟩⟩; refine ⟨_, rfl, ?_⟩) | ((with_reducible refine gate_callee (f := 70) rfl ?_); refine goesL_ (some 20) rfl rfl Try.func70 (by kernel_rfl) rfl #[.int .i64 t107] rfl (by (try simp only [List.map_toArray, List.map_cons, List.map_nil]); first | done | rfl | (simp only [List.length_drop, List.length_take]; rfl)) ?_; (with_reducible refine (plait_border.calls kj1 t107 t108 _ A6.out).mono ?_); rintro e w7 ⟨v109, rfl, ho0, hb⟩; refine ⟨_, rfl, ?_⟩; have n0_ := Aside0.mk (Kd.R_lower ho0 (below_size (by repeat (first | (with_reducible first | exact HB.out | apply below_alloc | apply pw_below_drewN | apply below_drew1) | exact HB.out)))); have n1_ := Aside0.mk (below_step (by repeat (first | (with_reducible first | exact HB.out | apply below_alloc | apply pw_below_drewN | apply below_drew1) | exact HB.out)) hb); clear HB; have HO110 := n0_; have HB := n1_; clear n0_ n1_; (try clear hb); (try clear hb2); (try clear hk); (try clear hi); (try clear ho0); obtain ⟨Ao8, co8, eo8⟩ := Kd.R_slice HO110.out; subst eo8))
    go_loopg [4, 5, 22] kj1 (fun kq v4 v5 v22 w' => ∃ (x4_2 : List Int) (x5_2 : List Int) (x22_2 : Int), v22 = .int .i64 x22_2 ∧ Aside0 (plait_diagram_arches.l0 kq l0 x4_2 x5_2 t108 (t108.length : Int) x22_2 = some (r1, r2)) ∧ Aside0 (kq ≤ kj1) ∧ Aside0 (Kd.R (Kd.int .i64) 3 w' w.heap.size (fun k_ => some k_ ≠ ((.slice Ao8 t108.length co8) : Value).ownBlock) v4 x4_2) ∧ Aside0 (Kd.R (Kd.int .u8) 5 w' w.heap.size (fun _ => True) v5 x5_2) ∧ Aside0 (Kd.R (Kd.int .i64) 3 w' w.heap.size (fun k_ => some k_ ≠ (v4 : Value).ownBlock) (.slice Ao8 t108.length co8) t108) ∧ Aside0 (Below w.heap.size w w'))
    case atStart => exact ⟨(([] : List Int)), (([] : List Int)), (0), (by first | rfl | (simp; done) | (simp [*]; done)), H', ⟨Nat.le_refl _⟩, ⟨by first | exact Kd.R_nil _ _ _ _ _ | exact Kd.N_nil _ _ _ _ _ | exact Kd.V_nil _ _ _ _ _ | exact Kd.Q_nil _ _ _ _ _ | exact Kd.S_nil _ _ _ _ _⟩, ⟨by first | exact Kd.R_nil _ _ _ _ _ | exact Kd.N_nil _ _ _ _ _ | exact Kd.V_nil _ _ _ _ _ | exact Kd.Q_nil _ _ _ _ _ | exact Kd.S_nil _ _ _ _ _⟩, ⟨by (with_reducible repeat (first | apply Kd.R_alloc | apply Kd.R_drewN | apply Kd.R_drew)); exact Kd.R_mono HO110.out (fun _ hk => (by simp [Value.ownBlock]))⟩, ⟨by repeat (first | (with_reducible first | exact HB.out | apply below_alloc | apply pw_below_drewN | apply below_drew1) | exact HB.out)⟩⟩
    case round =>
     clear H'
     try clear p2
     try clear c3
     try clear c3b0
     try clear c3b1
     try clear c3b2
     try clear c4
     try clear c7
     try clear p2
     obtain ⟨x4_2, x5_2, x22_2, rfl, HA, HK2, HO_4, HO_5, HO_20, HB⟩ := hrel
     cases gk with
     | zero => exact absurd HA.out (by simp [plait_diagram_arches.l0])
     | succ k2 =>
      have H := HA.out
      clear HA
      simp only [plait_diagram_arches.l0] at H
      by_cases c9 : x22_2 < (t108.length : Int)
      ·rw [if_pos c9] at H
       have c9b0 : decide (x22_2 < (t108.length : Int)) = true := decide_eq_true c9
       clear c9
       by_cases c10 : 0 ≤ x22_2
       ·rw [if_pos c10] at H
        have c10b0 : decide (0 ≤ x22_2) = true := decide_eq_true c10
        clear c10
        by_cases c11 : x22_2 < (t108.length : Int)
        ·rw [if_pos c11] at H
         have c11b0 : decide (x22_2 < (t108.length : Int)) = true := decide_eq_true c11
         clear c11
         by_cases c12 : 0 ≤ (rd t108 x22_2)
         ·rw [if_pos c12] at H
          have c12b0 : decide (0 ≤ (rd t108 x22_2)) = true := decide_eq_true c12
          clear c12
          by_cases c13 : (rd t108 x22_2) < (l0.length : Int)
          ·rw [if_pos c13] at H
           have c13b0 : decide ((rd t108 x22_2) < (l0.length : Int)) = true := decide_eq_true c13
           clear c13
           have HC14 := Aside0.mk H
           clear H
           have p111 : 0 ≤ (x22_2 : Int) := of_decide_eq_true (by first | (with_reducible assumption) | assumption)
           have q111 : x22_2 < (t108.length : Int) := of_decide_eq_true (by first | (with_reducible assumption) | assumption)
           obtain ⟨ad111, e111, hx111_0⟩ := Kd.at_int (Kd.R_reads' HO_20.out).2.2 x22_2 p111 q111
           cases e111
           replace p111 := eq_true p111
           replace q111 := eq_true q111
           have p112 : 0 ≤ ((rd t108 x22_2) : Int) := of_decide_eq_true (by first | (with_reducible assumption) | assumption)
           have q112 : (rd t108 x22_2) < (l0.length : Int) := of_decide_eq_true (by first | (with_reducible assumption) | assumption)
           obtain ⟨ad112, e112, hx112_0⟩ := Kd.at_int HR0.out (rd t108 x22_2) p112 q112
           cases e112
           replace hx112_0 := (HB.out.cell (World.block_lt_of_cell? w _ hx112_0)).trans hx112_0
           replace p112 := eq_true p112
           replace q112 := eq_true q112
           go_upto_region 11 with (fail)
           go_cut [37] (fun v37 wc => ∃ (kq : Nat) (x37_13 : Bool), v37 = .bool x37_13 ∧ Aside0 (plait_diagram_arches.j2 kq l0 x4_2 x5_2 (rd t108 x22_2) (rd l0 (rd t108 x22_2)) t108 (t108.length : Int) x22_2 x37_13 = some (r1, r2)) ∧ Aside0 (kq ≤ k2) ∧ Aside0 (Kd.R (Kd.int .i64) 3 wc w.heap.size (fun k_ => some k_ ≠ ((.slice (some ad111) t108.length co8) : Value).ownBlock) u4 x4_2) ∧ Aside0 (Kd.R (Kd.int .u8) 5 wc w.heap.size (fun _ => True) u5 x5_2) ∧ Aside0 (Kd.R (Kd.int .i64) 3 wc w.heap.size (fun k_ => some k_ ≠ (u4 : Value).ownBlock) (.slice (some ad111) t108.length co8) t108) ∧ Aside0 (Below w.heap.size w wc))
           case first =>
            have H := HC14.out
            clear HC14
            by_cases c15 : (rd l0 (rd t108 x22_2)) < 0
            ·rw [if_pos c15] at H
             have c15b0 : decide ((rd l0 (rd t108 x22_2)) < 0) = true := decide_eq_true c15
             clear c15
             (first | rw [c15b0] | (simp only [i64_w, i32_w]; rw [c15b0]) | skip)
             have H' := Aside0.mk H
             clear H
             go_wp2
             go_meet
             case rel => exact ⟨_, (true), (by first | rfl | (simp; done) | (simp [*]; done)), H', ⟨by have := HJ1.out; have := HK2.out; first | omega | exact Nat.le_refl _⟩, ⟨by (with_reducible repeat (first | apply Kd.R_alloc | apply Kd.R_drewN | apply Kd.R_drew)); exact HO_4.out⟩, ⟨by (with_reducible repeat (first | apply Kd.R_alloc | apply Kd.R_drewN | apply Kd.R_drew)); exact HO_5.out⟩, ⟨by (with_reducible repeat (first | apply Kd.R_alloc | apply Kd.R_drewN | apply Kd.R_drew)); exact HO_20.out⟩, ⟨by repeat (first | (with_reducible first | exact HB.out | apply below_alloc | apply pw_below_drewN | apply below_drew1) | exact HB.out)⟩⟩
            ·rw [if_neg c15] at H
             have c15b0 : decide ((rd l0 (rd t108 x22_2)) < 0) = false := decide_eq_false c15
             clear c15
             (first | rw [c15b0] | (simp only [i64_w, i32_w]; rw [c15b0]) | skip)
             by_cases c16 : (rd l0 (rd t108 x22_2)) ≥ (l0.length : Int)
             ·rw [if_pos c16] at H
              have c16b0 : decide ((l0.length : Int) ≤ (rd l0 (rd t108 x22_2))) = true := decide_eq_true c16
              clear c16
              have H' := Aside0.mk H
              clear H
              go_wp2
              go_meet
              case rel => exact ⟨_, (true), (by first | rfl | (simp; done) | (simp [*]; done)), H', ⟨by have := HJ1.out; have := HK2.out; first | omega | exact Nat.le_refl _⟩, ⟨by (with_reducible repeat (first | apply Kd.R_alloc | apply Kd.R_drewN | apply Kd.R_drew)); exact HO_4.out⟩, ⟨by (with_reducible repeat (first | apply Kd.R_alloc | apply Kd.R_drewN | apply Kd.R_drew)); exact HO_5.out⟩, ⟨by (with_reducible repeat (first | apply Kd.R_alloc | apply Kd.R_drewN | apply Kd.R_drew)); exact HO_20.out⟩, ⟨by repeat (first | (with_reducible first | exact HB.out | apply below_alloc | apply pw_below_drewN | apply below_drew1) | exact HB.out)⟩⟩
             ·rw [if_neg c16] at H
              have c16b0 : decide ((l0.length : Int) ≤ (rd l0 (rd t108 x22_2))) = false := decide_eq_false c16
              clear c16
              by_cases c17 : (rd l0 (rd t108 x22_2)) = (rd t108 x22_2)
              ·rw [if_pos c17] at H
               have c17b0 : ((rd l0 (rd t108 x22_2)) == (rd t108 x22_2)) = true := beq_iff_eq.mpr c17
               have c17b1 : ((rd l0 (rd t108 x22_2)) != (rd t108 x22_2)) = false := bne_eq_false_iff_eq.mpr c17
               clear c17
               have H' := Aside0.mk H
               clear H
               go_wp2
               go_meet
               case rel => exact ⟨_, (true), (by first | rfl | (simp; done) | (simp [*]; done)), H', ⟨by have := HJ1.out; have := HK2.out; first | omega | exact Nat.le_refl _⟩, ⟨by (with_reducible repeat (first | apply Kd.R_alloc | apply Kd.R_drewN | apply Kd.R_drew)); exact HO_4.out⟩, ⟨by (with_reducible repeat (first | apply Kd.R_alloc | apply Kd.R_drewN | apply Kd.R_drew)); exact HO_5.out⟩, ⟨by (with_reducible repeat (first | apply Kd.R_alloc | apply Kd.R_drewN | apply Kd.R_drew)); exact HO_20.out⟩, ⟨by repeat (first | (with_reducible first | exact HB.out | apply below_alloc | apply pw_below_drewN | apply below_drew1) | exact HB.out)⟩⟩
              ·rw [if_neg c17] at H
               have c17b0 : ((rd l0 (rd t108 x22_2)) == (rd t108 x22_2)) = false := beq_eq_false_iff_ne.mpr c17
               have c17b1 : ((rd l0 (rd t108 x22_2)) != (rd t108 x22_2)) = true := bne_iff_ne.mpr c17
               by_cases c18 : 0 ≤ (rd l0 (rd t108 x22_2))
               ·rw [if_pos c18] at H
                have c18b0 : decide (0 ≤ (rd l0 (rd t108 x22_2))) = true := decide_eq_true c18
                clear c18
                by_cases c19 : (rd l0 (rd t108 x22_2)) < (l0.length : Int)
                ·rw [if_pos c19] at H
                 have c19b0 : decide ((rd l0 (rd t108 x22_2)) < (l0.length : Int)) = true := decide_eq_true c19
                 clear c19
                 have H' := Aside0.mk H
                 clear H
                 have p113 : 0 ≤ ((rd l0 (rd t108 x22_2)) : Int) := of_decide_eq_true (by first | (with_reducible assumption) | assumption)
                 have q113 : (rd l0 (rd t108 x22_2)) < (l0.length : Int) := of_decide_eq_true (by first | (with_reducible assumption) | assumption)
                 obtain ⟨ad113, e113, hx113_0⟩ := Kd.at_int HR0.out (rd l0 (rd t108 x22_2)) p113 q113
                 obtain rfl : ad112 = ad113 := (by injection e113)
                 replace hx113_0 := (HB.out.cell (World.block_lt_of_cell? w _ hx113_0)).trans hx113_0
                 replace p113 := eq_true p113
                 replace q113 := eq_true q113
                 go_wp2
                 go_meet
                 case rel => exact ⟨_, (((rd l0 (rd l0 (rd t108 x22_2))) != (rd t108 x22_2))), (by first | rfl | (simp; done) | (simp [*]; done)), H', ⟨by have := HJ1.out; have := HK2.out; first | omega | exact Nat.le_refl _⟩, ⟨by (with_reducible repeat (first | apply Kd.R_alloc | apply Kd.R_drewN | apply Kd.R_drew)); exact HO_4.out⟩, ⟨by (with_reducible repeat (first | apply Kd.R_alloc | apply Kd.R_drewN | apply Kd.R_drew)); exact HO_5.out⟩, ⟨by (with_reducible repeat (first | apply Kd.R_alloc | apply Kd.R_drewN | apply Kd.R_drew)); exact HO_20.out⟩, ⟨by repeat (first | (with_reducible first | exact HB.out | apply below_alloc | apply pw_below_drewN | apply below_drew1) | exact HB.out)⟩⟩
                ·rw [if_neg c19] at H
                 exact absurd H (by simp)
               ·rw [if_neg c18] at H
                exact absurd H (by simp)
           case rest =>
            clear HC14
            try clear c1
            try clear p1
            try clear q1
            try clear hx1
            try clear p2
            try clear c3
            try clear c3b0
            try clear c3b1
            try clear c3b2
            try clear c4
            try clear c7
            try clear c9
            try clear c9b0
            try clear c10
            try clear c10b0
            try clear c11
            try clear c11b0
            try clear p11
            try clear q11
            try clear hx11
            try clear c12
            try clear c12b0
            try clear c13
            try clear c13b0
            try clear c15
            try clear c15b0
            try clear c16
            try clear c16b0
            try clear c17
            try clear c17b0
            try clear c17b1
            try clear c18
            try clear c18b0
            try clear c19
            try clear c19b0
            try clear hx111_0
            try clear hx112_0
            try clear hx113_0
            try clear p111
            try clear p112
            try clear p113
            try clear p2
            try clear q111
            try clear q112
            try clear q113
            obtain ⟨kq, x37_13, rfl, HA, HJ13, HO_4, HO_5, HO_20, HB⟩ := hcut
            cases kq with
            | zero => exact absurd HA.out (by simp [plait_diagram_arches.j2])
            | succ kj13 =>
             have H := HA.out
             clear HA
             simp only [plait_diagram_arches.j2] at H
             by_cases c20 : x37_13 = true
             ·subst c20
              have H1 : (some ((⟨#[]⟩ : ByteArray), false)) = some (r1, r2) := by rw [if_pos rfl] at H; exact H
              clear H
              have H := H1
              clear H1
              simp only [Option.some.injEq, Prod.mk.injEq] at H
              obtain ⟨rfl, rfl⟩ := H
              go_wp2
              go_ret2
              exact ⟨by first | rfl | (simp [errW_none, errW_some] <;> rfl) | (simp [*, errW_none, errW_some] <;> rfl), by repeat (first | (with_reducible first | exact HB.out | apply below_alloc | apply pw_below_drewN | apply below_drew1) | exact HB.out)⟩
             ·replace c20 := Bool.eq_false_iff.mpr c20
              subst c20
              have H1 : (if (x4_2.length : Int) > 0 then (if 0 ≤ (wrap64 ((x4_2.length : Int) - 1)) then (if (wrap64 ((x4_2.length : Int) - 1)) < (x4_2.length : Int) then (if (rd x4_2 (wrap64 ((x4_2.length : Int) - 1))) = (rd l0 (rd t108 x22_2)) then (if (wrap64 ((x4_2.length : Int) - 1)) ≤ (x4_2.length : Int) then (if x5_2.length < 140737488355328 then (plait_diagram_arches.l0 kj13 l0 (x4_2.take ((wrap64 ((x4_2.length : Int) - 1)) : Int).toNat) (x5_2 ++ [41]) t108 (t108.length : Int) (wrap64 (x22_2 + 1))) else (none)) else (none)) else (if x4_2.length < 17592186044416 then (if x5_2.length < 140737488355328 then (plait_diagram_arches.l0 kj13 l0 (x4_2 ++ [(rd t108 x22_2)]) (x5_2 ++ [40]) t108 (t108.length : Int) (wrap64 (x22_2 + 1))) else (none)) else (none))) else (none)) else (none)) else (if x4_2.length < 17592186044416 then (if x5_2.length < 140737488355328 then (plait_diagram_arches.l0 kj13 l0 (x4_2 ++ [(rd t108 x22_2)]) (x5_2 ++ [40]) t108 (t108.length : Int) (wrap64 (x22_2 + 1))) else (none)) else (none))) = some (r1, r2) := by rw [if_neg (show ¬ (false = true) by decide)] at H; exact H
              clear H
              have H := H1
              clear H1
              by_cases c21 : (x4_2.length : Int) > 0
              ·rw [if_pos c21] at H
               have c21b0 : decide (0 < (x4_2.length : Int)) = true := decide_eq_true c21
               have c21b1 : decide (0 < x4_2.length) = true := decide_eq_true (by omega)
               clear c21
               obtain ⟨ji22, hji22⟩ : ∃ j_ : Int, (wrap64 ((x4_2.length : Int) - 1)) = j_ := ⟨_, rfl⟩
               replace H : (if 0 ≤ (ji22) then (if (ji22) < (x4_2.length : Int) then (if (rd x4_2 (ji22)) = (rd l0 (rd t108 x22_2)) then (if (ji22) ≤ (x4_2.length : Int) then (if x5_2.length < 140737488355328 then (plait_diagram_arches.l0 kj13 l0 (x4_2.take ((ji22) : Int).toNat) (x5_2 ++ [41]) t108 (t108.length : Int) (wrap64 (x22_2 + 1))) else (none)) else (none)) else (if x4_2.length < 17592186044416 then (if x5_2.length < 140737488355328 then (plait_diagram_arches.l0 kj13 l0 (x4_2 ++ [(rd t108 x22_2)]) (x5_2 ++ [40]) t108 (t108.length : Int) (wrap64 (x22_2 + 1))) else (none)) else (none))) else (none)) else (none)) = some (r1, r2) := by first | (rw [hji22] at H; exact H) | (simp only [hji22] at H ⊢; exact H)
               have hji22w : (IntKind.i64.wrap ((x4_2.length : Int) - 1)) = ji22 := (i64_w _).trans hji22
               by_cases c23 : 0 ≤ (ji22)
               ·rw [if_pos c23] at H
                have c23b0 : decide (0 ≤ (ji22)) = true := decide_eq_true c23
                clear c23
                by_cases c24 : (ji22) < (x4_2.length : Int)
                ·rw [if_pos c24] at H
                 have c24b0 : decide ((ji22) < (x4_2.length : Int)) = true := decide_eq_true c24
                 clear c24
                 by_cases c25 : (rd x4_2 (ji22)) = (rd l0 (rd t108 x22_2))
                 ·rw [if_pos c25] at H
                  have c25b0 : ((rd x4_2 (ji22)) == (rd l0 (rd t108 x22_2))) = true := beq_iff_eq.mpr c25
                  have c25b1 : ((rd x4_2 (ji22)) != (rd l0 (rd t108 x22_2))) = false := bne_eq_false_iff_eq.mpr c25
                  clear c25
                  by_cases c26 : (ji22) ≤ (x4_2.length : Int)
                  ·rw [if_pos c26] at H
                   have c26b0 := eq_true c26
                   have c26b1 : decide ((ji22) ≤ (x4_2.length : Int)) = true := decide_eq_true c26
                   clear c26
                   obtain ⟨y115, hy115⟩ : ∃ y_ : List Int, y_ = (x4_2.take ((ji22) : Int).toNat) := ⟨_, rfl⟩
                   replace H : (if x5_2.length < 140737488355328 then (plait_diagram_arches.l0 kj13 l0 y115 (x5_2 ++ [41]) t108 (t108.length : Int) (wrap64 (x22_2 + 1))) else (none)) = some (r1, r2) := by first | (rw [hy115]; with_reducible exact H) | (have H2_ := (Option.bind_some _ _).symm.trans H; rw [hy115]; with_reducible exact H2_) | (have H2_ := (Option.bind_some _ _).symm.trans H; with_reducible exact H2_) | with_reducible exact H | (rw [hy115]; exact H) | exact H
                   have Ny115 := Aside0.mk hy115
                   clear hy115
                   by_cases c27 : x5_2.length < 140737488355328
                   ·rw [if_pos c27] at H
                    have LMc27 := Aside0.mk c27
                    clear c27
                    obtain ⟨y118, hy118⟩ : ∃ y_ : List Int, y_ = (x5_2 ++ [41]) := ⟨_, rfl⟩
                    replace H : (plait_diagram_arches.l0 kj13 l0 y115 y118 t108 (t108.length : Int) (wrap64 (x22_2 + 1))) = some (r1, r2) := by first | (rw [hy118]; with_reducible exact H) | (have H2_ := (Option.bind_some _ _).symm.trans H; rw [hy118]; with_reducible exact H2_) | (have H2_ := (Option.bind_some _ _).symm.trans H; with_reducible exact H2_) | with_reducible exact H | (rw [hy118]; exact H) | exact H
                    have Ny118 := Aside0.mk hy118
                    clear hy118
                    have H' := Aside0.mk H
                    clear H
                    obtain ⟨Ao28, co28, eo28⟩ := Kd.R_slice HO_4.out
                    subst eo28
                    have p114 : 0 ≤ ((ji22) : Int) := of_decide_eq_true (by first | (with_reducible assumption) | assumption)
                    have q114 : (ji22) < (x4_2.length : Int) := of_decide_eq_true (by first | (with_reducible assumption) | assumption)
                    obtain ⟨ad114, e114, hx114_0⟩ := Kd.at_int (Kd.R_reads' HO_4.out).2.2 (ji22) p114 q114
                    cases e114
                    replace p114 := eq_true p114
                    replace q114 := eq_true q114
                    have q29 : ((ji22) : Int) ≤ ((x4_2.length : Int) : Int) := of_decide_eq_true (by first | (with_reducible assumption) | assumption)
                    obtain ⟨i029, hi029, _, hsz29, _⟩ := info_parts info3
                    have hcut29 := cut_to (P := Try.prog) 22 3 .i64 Try.underlying22 hi029 (some ad114) x4_2.length co28 (ji22) (of_decide_eq_true (by first | (with_reducible assumption) | assumption)) q29 (Kd.R_reads' HO_4.out).2.1
                    have hr29 := Kd.R_take (m := ((ji22) : Int).toNat) HO_4.out (by omega)
                    have hy29 : y115.length = ((ji22) : Int).toNat := (by rw [Ny115.out, List.length_take]; omega)
                    rw [← Ny115.out] at hr29
                    rw [← hy29] at hr29 hcut29
                    clear hy29 hi029 hsz29 HO_4
                    have HO117 := Aside0.mk hr29
                    clear hr29
                    replace q29 := eq_true q29
                    go_wp2_with (first | ((with_reducible refine gate_builtin (b := .append) (xs := #[.tmp 78, .tmp 79]) rfl ?_); (try (refine gate_guard (by rfl) ?_; dsimp only)); at_builtin; refine Kd.R_append (Kd.int .u8) (w0 := w) w.heap.size rfl (.tmp 78) (.tmp 79) 60 5 (.int .u8 0) 1 rfl Try.underlying60 info5 rfl (by decide) (by omega) u5 x5_2 41 [.int .u8 41] (fun _ => True) (fun _ => False) rfl rfl ?aP (fun _ hk => hk.elim) ?aF ?aO ?aB ?aS ?aL ?_; (case aP => exact rfl); (case aB => exact (by repeat (first | (with_reducible first | exact HB.out | apply below_alloc | apply pw_below_drewN | apply below_drew1) | exact HB.out))); (case aF => exact (fun _ _ => trivial)); (case aO => exact (by (with_reducible repeat (first | apply Kd.R_alloc | apply Kd.R_drewN | apply Kd.R_drew)); exact HO_5.out)); (case aS => exact (below_size (by repeat (first | (with_reducible first | exact HB.out | apply below_alloc | apply pw_below_drewN | apply below_drew1) | exact HB.out)))); (case aL => have := LMc27.out; omega); intro v119 w30 ho hb hg hat; rw [← Ny118.out] at ho; have n0_ := Aside0.mk (Kd.R_over' (by (with_reducible repeat (first | apply Kd.R_alloc | apply Kd.R_drewN | apply Kd.R_drew)); exact HO117.out) (Kd.R_typed (by (with_reducible repeat (first | apply Kd.R_alloc | apply Kd.R_drewN | apply Kd.R_drew)); exact HO_5.out)) (by decide) hg); have n1_ := Aside0.mk (Kd.R_over' (by (with_reducible repeat (first | apply Kd.R_alloc | apply Kd.R_drewN | apply Kd.R_drew)); exact HO_20.out) (Kd.R_typed (by (with_reducible repeat (first | apply Kd.R_alloc | apply Kd.R_drewN | apply Kd.R_drew)); exact HO_5.out)) (by decide) hg); have n2_ := Aside0.mk (hb); have n3_ := Aside0.mk (ho); clear HO117; clear HO_20; clear HB; clear HO_5; have HO117 := n0_; have HO_20 := n1_; have HB := n2_; have HO120 := n3_; clear n0_ n1_ n2_ n3_; clear ho hb hg hat))
                    go_roundg kj13
                    case measure => have := HJ1.out; have := HK2.out; have := HJ13.out; omega
                    case rel => exact ⟨(y115), (y118), (wrap64 (x22_2 + 1)), (by first | rfl | (simp; done) | (simp [*]; done)), H', ⟨by have := HJ1.out; have := HK2.out; have := HJ13.out; omega⟩, ⟨by (with_reducible repeat (first | apply Kd.R_alloc | apply Kd.R_drewN | apply Kd.R_drew)); exact HO117.out⟩, ⟨by (with_reducible repeat (first | apply Kd.R_alloc | apply Kd.R_drewN | apply Kd.R_drew)); exact HO120.out⟩, ⟨by (with_reducible repeat (first | apply Kd.R_alloc | apply Kd.R_drewN | apply Kd.R_drew)); exact HO_20.out⟩, ⟨by repeat (first | (with_reducible first | exact HB.out | apply below_alloc | apply pw_below_drewN | apply below_drew1) | exact HB.out)⟩⟩
                   ·rw [if_neg c27] at H
                    exact absurd H (by simp)
                  ·rw [if_neg c26] at H
                   exact absurd H (by simp)
                 ·rw [if_neg c25] at H
                  have c25b0 : ((rd x4_2 (ji22)) == (rd l0 (rd t108 x22_2))) = false := beq_eq_false_iff_ne.mpr c25
                  have c25b1 : ((rd x4_2 (ji22)) != (rd l0 (rd t108 x22_2))) = true := bne_iff_ne.mpr c25
                  by_cases c31 : x4_2.length < 17592186044416
                  ·rw [if_pos c31] at H
                   have LMc31 := Aside0.mk c31
                   clear c31
                   obtain ⟨y121, hy121⟩ : ∃ y_ : List Int, y_ = (x4_2 ++ [(rd t108 x22_2)]) := ⟨_, rfl⟩
                   replace H : (if x5_2.length < 140737488355328 then (plait_diagram_arches.l0 kj13 l0 y121 (x5_2 ++ [40]) t108 (t108.length : Int) (wrap64 (x22_2 + 1))) else (none)) = some (r1, r2) := by first | (rw [hy121]; with_reducible exact H) | (have H2_ := (Option.bind_some _ _).symm.trans H; rw [hy121]; with_reducible exact H2_) | (have H2_ := (Option.bind_some _ _).symm.trans H; with_reducible exact H2_) | with_reducible exact H | (rw [hy121]; exact H) | exact H
                   have Ny121 := Aside0.mk hy121
                   clear hy121
                   by_cases c32 : x5_2.length < 140737488355328
                   ·rw [if_pos c32] at H
                    have LMc32 := Aside0.mk c32
                    clear c32
                    obtain ⟨y124, hy124⟩ : ∃ y_ : List Int, y_ = (x5_2 ++ [40]) := ⟨_, rfl⟩
                    replace H : (plait_diagram_arches.l0 kj13 l0 y121 y124 t108 (t108.length : Int) (wrap64 (x22_2 + 1))) = some (r1, r2) := by first | (rw [hy124]; with_reducible exact H) | (have H2_ := (Option.bind_some _ _).symm.trans H; rw [hy124]; with_reducible exact H2_) | (have H2_ := (Option.bind_some _ _).symm.trans H; with_reducible exact H2_) | with_reducible exact H | (rw [hy124]; exact H) | exact H
                    have Ny124 := Aside0.mk hy124
                    clear hy124
                    have H' := Aside0.mk H
                    clear H
                    obtain ⟨Ao33, co33, eo33⟩ := Kd.R_slice HO_4.out
                    subst eo33
                    have p114 : 0 ≤ ((ji22) : Int) := of_decide_eq_true (by first | (with_reducible assumption) | assumption)
                    have q114 : (ji22) < (x4_2.length : Int) := of_decide_eq_true (by first | (with_reducible assumption) | assumption)
                    obtain ⟨ad114, e114, hx114_0⟩ := Kd.at_int (Kd.R_reads' HO_4.out).2.2 (ji22) p114 q114
                    cases e114
                    replace p114 := eq_true p114
                    replace q114 := eq_true q114
                    go_wp2_with (first | ((with_reducible refine gate_builtin (b := .append) (xs := #[.tmp 30, .tmp 32]) rfl ?_); (try (refine gate_guard (by rfl) ?_; dsimp only)); at_builtin; refine Kd.R_append (Kd.int .i64) (w0 := w) w.heap.size rfl (.tmp 30) (.tmp 32) 22 3 (.int .i64 0) 8 rfl Try.underlying22 info3 rfl (by decide) (by omega) (.slice (some ad114) x4_2.length co33) x4_2 (rd t108 x22_2) [.int .i64 (rd t108 x22_2)] (fun k_ => some k_ ≠ (.slice (some ad111) t108.length co8 : Value).ownBlock) (fun _ => False) rfl rfl ?aP (fun _ hk => hk.elim) ?aF ?aO ?aB ?aS ?aL ?_; (case aP => exact rfl); (case aB => exact (by repeat (first | (with_reducible first | exact HB.out | apply below_alloc | apply pw_below_drewN | apply below_drew1) | exact HB.out))); (case aF => exact (fun k_ hk => Kd.fresh' (Kd.R_lt (by (with_reducible repeat (first | apply Kd.R_alloc | apply Kd.R_drewN | apply Kd.R_drew)); exact HO_20.out)) k_ hk)); (case aO => exact (by (with_reducible repeat (first | apply Kd.R_alloc | apply Kd.R_drewN | apply Kd.R_drew)); exact HO_4.out)); (case aS => exact (below_size (by repeat (first | (with_reducible first | exact HB.out | apply below_alloc | apply pw_below_drewN | apply below_drew1) | exact HB.out)))); (case aL => have := LMc31.out; omega); intro v122 w34 ho hb hg hat; rw [← Ny121.out] at ho; have n0_ := Aside0.mk (Kd.R_over' (by (with_reducible repeat (first | apply Kd.R_alloc | apply Kd.R_drewN | apply Kd.R_drew)); exact HO_5.out) (Kd.R_typed (by (with_reducible repeat (first | apply Kd.R_alloc | apply Kd.R_drewN | apply Kd.R_drew)); exact HO_4.out)) (by decide) hg); have n1_ := Aside0.mk (Kd.R_after (ok := (fun _ => True)) (by (with_reducible repeat (first | apply Kd.R_alloc | apply Kd.R_drewN | apply Kd.R_drew)); exact Kd.R_mono HO_20.out (fun _ hk => ⟨trivial, hk⟩)) hg hat); have n2_ := Aside0.mk (hb); have n3_ := Aside0.mk (ho); clear HO_5; clear HO_20; clear HB; clear HO_4; have HO_5 := n0_; have HO_20 := n1_; have HB := n2_; have HO123 := n3_; clear n0_ n1_ n2_ n3_; clear ho hb hg hat) | ((with_reducible refine gate_builtin (b := .append) (xs := #[.tmp 34, .tmp 35]) rfl ?_); (try (refine gate_guard (by rfl) ?_; dsimp only)); at_builtin; refine Kd.R_append (Kd.int .u8) (w0 := w) w.heap.size rfl (.tmp 34) (.tmp 35) 60 5 (.int .u8 0) 1 rfl Try.underlying60 info5 rfl (by decide) (by omega) u5 x5_2 40 [.int .u8 40] (fun _ => True) (fun _ => False) rfl rfl ?aP (fun _ hk => hk.elim) ?aF ?aO ?aB ?aS ?aL ?_; (case aP => exact rfl); (case aB => exact (by repeat (first | (with_reducible first | exact HB.out | apply below_alloc | apply pw_below_drewN | apply below_drew1) | exact HB.out))); (case aF => exact (fun _ _ => trivial)); (case aO => exact (by (with_reducible repeat (first | apply Kd.R_alloc | apply Kd.R_drewN | apply Kd.R_drew)); exact HO_5.out)); (case aS => exact (below_size (by repeat (first | (with_reducible first | exact HB.out | apply below_alloc | apply pw_below_drewN | apply below_drew1) | exact HB.out)))); (case aL => have := LMc32.out; omega); intro v125 w35 ho hb hg hat; rw [← Ny124.out] at ho; have n0_ := Aside0.mk (Kd.R_over' (by (with_reducible repeat (first | apply Kd.R_alloc | apply Kd.R_drewN | apply Kd.R_drew)); exact HO_20.out) (Kd.R_typed (by (with_reducible repeat (first | apply Kd.R_alloc | apply Kd.R_drewN | apply Kd.R_drew)); exact HO_5.out)) (by decide) hg); have n1_ := Aside0.mk (Kd.R_over' (by (with_reducible repeat (first | apply Kd.R_alloc | apply Kd.R_drewN | apply Kd.R_drew)); exact HO123.out) (Kd.R_typed (by (with_reducible repeat (first | apply Kd.R_alloc | apply Kd.R_drewN | apply Kd.R_drew)); exact HO_5.out)) (by decide) hg); have n2_ := Aside0.mk (hb); have n3_ := Aside0.mk (ho); clear HO_20; clear HO123; clear HB; clear HO_5; have HO_20 := n0_; have HO123 := n1_; have HB := n2_; have HO126 := n3_; clear n0_ n1_ n2_ n3_; clear ho hb hg hat))
                    go_roundg kj13
                    case measure => have := HJ1.out; have := HK2.out; have := HJ13.out; omega
                    case rel => exact ⟨(y121), (y124), (wrap64 (x22_2 + 1)), (by first | rfl | (simp; done) | (simp [*]; done)), H', ⟨by have := HJ1.out; have := HK2.out; have := HJ13.out; omega⟩, ⟨by (with_reducible repeat (first | apply Kd.R_alloc | apply Kd.R_drewN | apply Kd.R_drew)); exact HO123.out⟩, ⟨by (with_reducible repeat (first | apply Kd.R_alloc | apply Kd.R_drewN | apply Kd.R_drew)); exact HO126.out⟩, ⟨by (with_reducible repeat (first | apply Kd.R_alloc | apply Kd.R_drewN | apply Kd.R_drew)); exact Kd.R_mono HO_20.out (fun _ hk => hk.2)⟩, ⟨by repeat (first | (with_reducible first | exact HB.out | apply below_alloc | apply pw_below_drewN | apply below_drew1) | exact HB.out)⟩⟩
                   ·rw [if_neg c32] at H
                    exact absurd H (by simp)
                  ·rw [if_neg c31] at H
                   exact absurd H (by simp)
                ·rw [if_neg c24] at H
                 exact absurd H (by simp)
               ·rw [if_neg c23] at H
                exact absurd H (by simp)
              ·rw [if_neg c21] at H
               have c21b0 : decide (0 < (x4_2.length : Int)) = false := decide_eq_false c21
               have c21b1 : decide (0 < x4_2.length) = false := decide_eq_false (by omega)
               clear c21
               by_cases c36 : x4_2.length < 17592186044416
               ·rw [if_pos c36] at H
                have LMc36 := Aside0.mk c36
                clear c36
                obtain ⟨y127, hy127⟩ : ∃ y_ : List Int, y_ = (x4_2 ++ [(rd t108 x22_2)]) := ⟨_, rfl⟩
                replace H : (if x5_2.length < 140737488355328 then (plait_diagram_arches.l0 kj13 l0 y127 (x5_2 ++ [40]) t108 (t108.length : Int) (wrap64 (x22_2 + 1))) else (none)) = some (r1, r2) := by first | (rw [hy127]; with_reducible exact H) | (have H2_ := (Option.bind_some _ _).symm.trans H; rw [hy127]; with_reducible exact H2_) | (have H2_ := (Option.bind_some _ _).symm.trans H; with_reducible exact H2_) | with_reducible exact H | (rw [hy127]; exact H) | exact H
                have Ny127 := Aside0.mk hy127
                clear hy127
                by_cases c37 : x5_2.length < 140737488355328
                ·rw [if_pos c37] at H
                 have LMc37 := Aside0.mk c37
                 clear c37
                 obtain ⟨y130, hy130⟩ : ∃ y_ : List Int, y_ = (x5_2 ++ [40]) := ⟨_, rfl⟩
                 replace H : (plait_diagram_arches.l0 kj13 l0 y127 y130 t108 (t108.length : Int) (wrap64 (x22_2 + 1))) = some (r1, r2) := by first | (rw [hy130]; with_reducible exact H) | (have H2_ := (Option.bind_some _ _).symm.trans H; rw [hy130]; with_reducible exact H2_) | (have H2_ := (Option.bind_some _ _).symm.trans H; with_reducible exact H2_) | with_reducible exact H | (rw [hy130]; exact H) | exact H
                 have Ny130 := Aside0.mk hy130
                 clear hy130
                 have H' := Aside0.mk H
                 clear H
                 obtain ⟨Ao38, co38, eo38⟩ := Kd.R_slice HO_4.out
                 subst eo38
                 go_wp2_with (first | ((with_reducible refine gate_builtin (b := .append) (xs := #[.tmp 30, .tmp 32]) rfl ?_); (try (refine gate_guard (by rfl) ?_; dsimp only)); at_builtin; refine Kd.R_append (Kd.int .i64) (w0 := w) w.heap.size rfl (.tmp 30) (.tmp 32) 22 3 (.int .i64 0) 8 rfl Try.underlying22 info3 rfl (by decide) (by omega) (.slice Ao38 x4_2.length co38) x4_2 (rd t108 x22_2) [.int .i64 (rd t108 x22_2)] (fun k_ => some k_ ≠ (.slice (some ad111) t108.length co8 : Value).ownBlock) (fun _ => False) rfl rfl ?aP (fun _ hk => hk.elim) ?aF ?aO ?aB ?aS ?aL ?_; (case aP => exact rfl); (case aB => exact (by repeat (first | (with_reducible first | exact HB.out | apply below_alloc | apply pw_below_drewN | apply below_drew1) | exact HB.out))); (case aF => exact (fun k_ hk => Kd.fresh' (Kd.R_lt (by (with_reducible repeat (first | apply Kd.R_alloc | apply Kd.R_drewN | apply Kd.R_drew)); exact HO_20.out)) k_ hk)); (case aO => exact (by (with_reducible repeat (first | apply Kd.R_alloc | apply Kd.R_drewN | apply Kd.R_drew)); exact HO_4.out)); (case aS => exact (below_size (by repeat (first | (with_reducible first | exact HB.out | apply below_alloc | apply pw_below_drewN | apply below_drew1) | exact HB.out)))); (case aL => have := LMc36.out; omega); intro v128 w39 ho hb hg hat; rw [← Ny127.out] at ho; have n0_ := Aside0.mk (Kd.R_over' (by (with_reducible repeat (first | apply Kd.R_alloc | apply Kd.R_drewN | apply Kd.R_drew)); exact HO_5.out) (Kd.R_typed (by (with_reducible repeat (first | apply Kd.R_alloc | apply Kd.R_drewN | apply Kd.R_drew)); exact HO_4.out)) (by decide) hg); have n1_ := Aside0.mk (Kd.R_after (ok := (fun _ => True)) (by (with_reducible repeat (first | apply Kd.R_alloc | apply Kd.R_drewN | apply Kd.R_drew)); exact Kd.R_mono HO_20.out (fun _ hk => ⟨trivial, hk⟩)) hg hat); have n2_ := Aside0.mk (hb); have n3_ := Aside0.mk (ho); clear HO_5; clear HO_20; clear HB; clear HO_4; have HO_5 := n0_; have HO_20 := n1_; have HB := n2_; have HO129 := n3_; clear n0_ n1_ n2_ n3_; clear ho hb hg hat) | ((with_reducible refine gate_builtin (b := .append) (xs := #[.tmp 34, .tmp 35]) rfl ?_); (try (refine gate_guard (by rfl) ?_; dsimp only)); at_builtin; refine Kd.R_append (Kd.int .u8) (w0 := w) w.heap.size rfl (.tmp 34) (.tmp 35) 60 5 (.int .u8 0) 1 rfl Try.underlying60 info5 rfl (by decide) (by omega) u5 x5_2 40 [.int .u8 40] (fun _ => True) (fun _ => False) rfl rfl ?aP (fun _ hk => hk.elim) ?aF ?aO ?aB ?aS ?aL ?_; (case aP => exact rfl); (case aB => exact (by repeat (first | (with_reducible first | exact HB.out | apply below_alloc | apply pw_below_drewN | apply below_drew1) | exact HB.out))); (case aF => exact (fun _ _ => trivial)); (case aO => exact (by (with_reducible repeat (first | apply Kd.R_alloc | apply Kd.R_drewN | apply Kd.R_drew)); exact HO_5.out)); (case aS => exact (below_size (by repeat (first | (with_reducible first | exact HB.out | apply below_alloc | apply pw_below_drewN | apply below_drew1) | exact HB.out)))); (case aL => have := LMc37.out; omega); intro v131 w40 ho hb hg hat; rw [← Ny130.out] at ho; have n0_ := Aside0.mk (Kd.R_over' (by (with_reducible repeat (first | apply Kd.R_alloc | apply Kd.R_drewN | apply Kd.R_drew)); exact HO_20.out) (Kd.R_typed (by (with_reducible repeat (first | apply Kd.R_alloc | apply Kd.R_drewN | apply Kd.R_drew)); exact HO_5.out)) (by decide) hg); have n1_ := Aside0.mk (Kd.R_over' (by (with_reducible repeat (first | apply Kd.R_alloc | apply Kd.R_drewN | apply Kd.R_drew)); exact HO129.out) (Kd.R_typed (by (with_reducible repeat (first | apply Kd.R_alloc | apply Kd.R_drewN | apply Kd.R_drew)); exact HO_5.out)) (by decide) hg); have n2_ := Aside0.mk (hb); have n3_ := Aside0.mk (ho); clear HO_20; clear HO129; clear HB; clear HO_5; have HO_20 := n0_; have HO129 := n1_; have HB := n2_; have HO132 := n3_; clear n0_ n1_ n2_ n3_; clear ho hb hg hat))
                 go_roundg kj13
                 case measure => have := HJ1.out; have := HK2.out; have := HJ13.out; omega
                 case rel => exact ⟨(y127), (y130), (wrap64 (x22_2 + 1)), (by first | rfl | (simp; done) | (simp [*]; done)), H', ⟨by have := HJ1.out; have := HK2.out; have := HJ13.out; omega⟩, ⟨by (with_reducible repeat (first | apply Kd.R_alloc | apply Kd.R_drewN | apply Kd.R_drew)); exact HO129.out⟩, ⟨by (with_reducible repeat (first | apply Kd.R_alloc | apply Kd.R_drewN | apply Kd.R_drew)); exact HO132.out⟩, ⟨by (with_reducible repeat (first | apply Kd.R_alloc | apply Kd.R_drewN | apply Kd.R_drew)); exact Kd.R_mono HO_20.out (fun _ hk => hk.2)⟩, ⟨by repeat (first | (with_reducible first | exact HB.out | apply below_alloc | apply pw_below_drewN | apply below_drew1) | exact HB.out)⟩⟩
                ·rw [if_neg c37] at H
                 exact absurd H (by simp)
               ·rw [if_neg c36] at H
                exact absurd H (by simp)
          ·rw [if_neg c13] at H
           exact absurd H (by simp)
         ·rw [if_neg c12] at H
          exact absurd H (by simp)
        ·rw [if_neg c11] at H
         exact absurd H (by simp)
       ·rw [if_neg c10] at H
        exact absurd H (by simp)
      ·rw [if_neg c9] at H
       have c9b0 : decide (x22_2 < (t108.length : Int)) = false := decide_eq_false c9
       clear c9
       simp only [Option.some.injEq, Prod.mk.injEq] at H
       obtain ⟨rfl, rfl⟩ := H
       have hcv41 := own_string (P := Try.prog) Try.underlying60 Try.underlying5 Try.underlying9 (Kd.own_of_R HO_5.out)
       obtain ⟨Ao42, co42, eo42⟩ := Kd.R_slice HO_4.out
       subst eo42
       go_wp2
       go_ret2
       exact ⟨by first | rfl | (simp [errW_none, errW_some] <;> rfl) | (simp [*, errW_none, errW_some] <;> rfl), by repeat (first | (with_reducible first | exact HB.out | apply below_alloc | apply pw_below_drewN | apply below_drew1) | exact HB.out)⟩
/-! ### plait_of: function 54 -/
/-- the errors of a diagram, by the program -/
def plait_of.f (k : Nat) (l0 : List Int) : Option (Int) := if (l0.length : Int) > 20 then (some 3) else ((plait_diagram_arches.f k l0).bind fun bt => (if bt.2 = true then (some 0) else (some 2)))
/-- the diagram that is handed back: the very list, where there is no error -/
def plait_of.val (r : Int) (s : Value) : Value := if r = 0 then s else .slice none 0 0
theorem plait_of.val0 (r : Int) (s : Value) (h : (r == 0) = true) : plait_of.val r s = s := by unfold plait_of.val; rw [if_pos (by simpa using h)]
theorem plait_of.mono : ∀ a0 k, LeO (plait_of.f k a0) (plait_of.f (k + 1) a0) := fun _ k =>
 LeO.ite (LeO.refl _) (LeO.bind (plait_diagram_arches.mono _ k) (fun _ => LeO.refl _))
set_option maxHeartbeats 1000000 in
theorem plait_of.calls (k : Nat) (A0 : Option Addr) (c0 : Nat) (l0 : List Int) (r : Int) (w : World) (hr0 : Kd.C (Kd.int .i64) w A0 l0.length l0) (hc0 : l0.length ≤ c0) (h : plait_of.f k l0 = some r) :
  Calls Try.prog 54 #[.slice A0 l0.length c0] w fun e w' => e = .returned (.tuple #[plait_of.val r (.slice A0 l0.length c0), .int .i64 r]) ∧ Below w.heap.size w w' := by
 have HR := Lib.hid hr0
 have HC := Lib.hid hc0
 unfold plait_of.f at h
 obtain ⟨n, hn⟩ : ∃ n, l0.length = n := ⟨_, rfl⟩
 have hcall := plait_diagram_arches.calls k A0 c0 l0
 rw [hn] at hcall h ⊢
 by_cases c1 : (n : Int) > 20
 ·rw [if_pos c1] at h
  have d1 : decide ((20 : Int) < (n : Int)) = true := decide_eq_true (by omega)
  have h2 := Option.some.inj h
  subst h2
  clear hr0 hc0 h hn hcall HR HC
  go_enter Try.func54, Try.ntmps54
  go_wp2
  go_ret2
  exact ⟨rfl, Below.refl _ _⟩
 ·rw [if_neg c1] at h
  have d1 : decide ((20 : Int) < (n : Int)) = false := decide_eq_false (by omega)
  obtain ⟨⟨s, ok⟩, h1, h⟩ := Option.bind_eq_some_iff.1 h
  have hca := fun w hR hC => hcall s ok w hR hC h1
  rw [hn] at hr0 hc0
  have HR := Lib.hid hr0
  have HC := Lib.hid hc0
  have HCA := Lib.hid hca
  cases ok with
  | true =>
   have h2 := Option.some.inj h
   subst h2
   clear hr0 hc0 h hn hcall h1 hca c1
   go_enter Try.func54, Try.ntmps54
   go_wp2_with (go_at_call 71; refine (HCA.out _ HR.out HC.out).mono ?_; rintro e wa ⟨rfl, hba⟩; have HBA := Lib.hid hba; clear hba)
   go_ret2
   exact ⟨rfl, HBA.out⟩
  | false =>
   have h2 := Option.some.inj h
   subst h2
   clear hr0 hc0 h hn hcall h1 hca c1
   go_enter Try.func54, Try.ntmps54
   go_wp2_with (go_at_call 71; refine (HCA.out _ HR.out HC.out).mono ?_; rintro e wa ⟨rfl, hba⟩; have HBA := Lib.hid hba; clear hba)
   go_ret2
   exact ⟨rfl, HBA.out⟩
/-! ### pomadelaw07_same: function 23 -/
def pomadelaw07_same.l0 : Nat → List Int → List Int → Int → Option (Bool)
 | 0, _, _, _ => none
 | k + 1, x0, x1, x5 => if x5 < (x0.length : Int) then (if 0 ≤ x5 then (if x5 < (x1.length : Int) then (if (rd x0 x5) = (rd x1 x5) then (pomadelaw07_same.l0 k x0 x1 (wrap64 (x5 + 1))) else (some false)) else (none)) else (none)) else (some true)
def pomadelaw07_same.f (k : Nat) (l0 : List Int) (l1 : List Int) : Option (Bool) := if (l0.length : Int) = (l1.length : Int) then (pomadelaw07_same.l0 k l0 l1 0) else (some false)
theorem pomadelaw07_same.mono_l : ∀ k, (∀ y0 y1 y2, LeO (pomadelaw07_same.l0 k y0 y1 y2) (pomadelaw07_same.l0 (k + 1) y0 y1 y2))
 | 0 => fun _ _ _ r h => by simp [pomadelaw07_same.l0] at h
 | k + 1 => by
  have ih0 := pomadelaw07_same.mono_l k
  ·intro y0 y1 y2
   unfold pomadelaw07_same.l0
   repeat' first
   | (with_reducible exact ih0 _ _ _)
   | (with_reducible exact LeO.refl _)
   | (with_reducible exact LeO.none _)
   | (with_reducible refine LeO.ite ?_ ?_)
   | (with_reducible refine LeO.bind ?_ (fun _ => ?_))
   | exact ih0 _ _ _
   | exact LeO.none _
   | refine LeO.ite ?_ ?_
   | refine LeO.bind ?_ (fun _ => ?_)
theorem pomadelaw07_same.mono : ∀ a0 a1 k, LeO (pomadelaw07_same.f k a0 a1) (pomadelaw07_same.f (k + 1) a0 a1) := by
 intro a0 a1 k
 have ih0 := pomadelaw07_same.mono_l k
 unfold pomadelaw07_same.f
 repeat' first
   | (with_reducible exact ih0 _ _ _)
   | (with_reducible exact LeO.refl _)
   | (with_reducible exact LeO.none _)
   | (with_reducible refine LeO.ite ?_ ?_)
   | (with_reducible refine LeO.bind ?_ (fun _ => ?_))
   | exact ih0 _ _ _
   | exact LeO.none _
   | refine LeO.ite ?_ ?_
   | refine LeO.bind ?_ (fun _ => ?_)
set_option maxHeartbeats 8000000 in
set_option maxRecDepth 100000 in
theorem pomadelaw07_same.calls (k : Nat) (A0 : Option Addr) (c0 : Nat) (l0 : List Int) (A1 : Option Addr) (c1 : Nat) (l1 : List Int) (r : Bool) (w : World) (hr0 : Kd.C (Kd.int .i64) w A0 l0.length l0) (hc0 : l0.length ≤ c0) (hr1 : Kd.C (Kd.int .i64) w A1 l1.length l1) (hc1 : l1.length ≤ c1) (h : pomadelaw07_same.f k l0 l1 = some r) :
  Calls Try.prog 23 #[.slice A0 l0.length c0, .slice A1 l1.length c1] w fun e w' => e = .returned (.bool r) ∧ Drawn0 w w' := by
 have HR0 := Aside0.mk hr0
 have HC0 := Aside0.mk hc0
 clear hr0 hc0
 have HR1 := Aside0.mk hr1
 have HC1 := Aside0.mk hc1
 clear hr1 hc1
 have H : (if (l0.length : Int) = (l1.length : Int) then (pomadelaw07_same.l0 k l0 l1 0) else (some false)) = some r := h
 clear h
 by_cases c3 : (l0.length : Int) = (l1.length : Int)
 ·rw [if_pos c3] at H
  have c3b0 : ((l0.length : Int) == (l1.length : Int)) = true := beq_iff_eq.mpr c3
  have c3b1 : ((l0.length : Int) != (l1.length : Int)) = false := bne_eq_false_iff_eq.mpr c3
  have c3b2 : (l0.length == l1.length) = true := by first | simpa using c3 | (simp at c3 ⊢; omega)
  clear c3
  have H' := Aside0.mk H
  clear H
  go_enter Try.func23, Try.ntmps23
  go_wp2
  repeat (go_quiet (fail); try go_wp2)
  go_loopg [5] k (fun kq v5 w' => ∃ (x5_1 : Int), v5 = .int .i64 x5_1 ∧ Aside0 (pomadelaw07_same.l0 kq l0 l1 x5_1 = some r) ∧ Aside0 (kq ≤ k) ∧ Drawn0 w w')
  case atStart => exact ⟨(0), (by first | rfl | (simp; done) | (simp [*]; done)), H', ⟨Nat.le_refl _⟩, by repeat (first | exact Drawn0.refl _ | apply Drawn0.step)⟩
  case round =>
   clear H'
   try clear c1
   try clear c2
   try clear p2
   try clear c3
   try clear c3b0
   try clear c3b1
   try clear c3b2
   obtain ⟨x5_1, rfl, HA, HK1, ⟨m1, rfl⟩⟩ := hrel
   cases gk with
   | zero => exact absurd HA.out (by simp [pomadelaw07_same.l0])
   | succ k1 =>
    have H := HA.out
    clear HA
    simp only [pomadelaw07_same.l0] at H
    by_cases c4 : x5_1 < (l0.length : Int)
    ·rw [if_pos c4] at H
     have c4b0 : decide (x5_1 < (l0.length : Int)) = true := decide_eq_true c4
     clear c4
     by_cases c5 : 0 ≤ x5_1
     ·rw [if_pos c5] at H
      have c5b0 : decide (0 ≤ x5_1) = true := decide_eq_true c5
      clear c5
      by_cases c6 : x5_1 < (l1.length : Int)
      ·rw [if_pos c6] at H
       have c6b0 : decide (x5_1 < (l1.length : Int)) = true := decide_eq_true c6
       clear c6
       by_cases c7 : (rd l0 x5_1) = (rd l1 x5_1)
       ·rw [if_pos c7] at H
        have c7b0 : ((rd l0 x5_1) == (rd l1 x5_1)) = true := beq_iff_eq.mpr c7
        have c7b1 : ((rd l0 x5_1) != (rd l1 x5_1)) = false := bne_eq_false_iff_eq.mpr c7
        clear c7
        have H' := Aside0.mk H
        clear H
        have p178 : 0 ≤ (x5_1 : Int) := of_decide_eq_true (by first | (with_reducible assumption) | assumption)
        have q178 : x5_1 < (l0.length : Int) := of_decide_eq_true (by first | (with_reducible assumption) | assumption)
        obtain ⟨ad178, e178, hx178_0⟩ := Kd.at_int HR0.out x5_1 p178 q178
        cases e178
        replace p178 := eq_true p178
        replace q178 := eq_true q178
        have p179 : 0 ≤ (x5_1 : Int) := of_decide_eq_true (by first | (with_reducible assumption) | assumption)
        have q179 : x5_1 < (l1.length : Int) := of_decide_eq_true (by first | (with_reducible assumption) | assumption)
        obtain ⟨ad179, e179, hx179_0⟩ := Kd.at_int HR1.out x5_1 p179 q179
        cases e179
        replace p179 := eq_true p179
        replace q179 := eq_true q179
        go_wp2
        repeat (go_quiet (fail); try go_wp2)
        go_roundg k1
        case measure => have := HK1.out; omega
        case rel => exact ⟨(wrap64 (x5_1 + 1)), (by first | rfl | (simp; done) | (simp [*]; done)), H', ⟨by have := HK1.out; omega⟩, by repeat (first | exact Drawn0.refl _ | apply Drawn0.step)⟩
       ·rw [if_neg c7] at H
        have c7b0 : ((rd l0 x5_1) == (rd l1 x5_1)) = false := beq_eq_false_iff_ne.mpr c7
        have c7b1 : ((rd l0 x5_1) != (rd l1 x5_1)) = true := bne_iff_ne.mpr c7
        obtain rfl := Option.some.inj H
        have p178 : 0 ≤ (x5_1 : Int) := of_decide_eq_true (by first | (with_reducible assumption) | assumption)
        have q178 : x5_1 < (l0.length : Int) := of_decide_eq_true (by first | (with_reducible assumption) | assumption)
        obtain ⟨ad178, e178, hx178_0⟩ := Kd.at_int HR0.out x5_1 p178 q178
        cases e178
        replace p178 := eq_true p178
        replace q178 := eq_true q178
        have p179 : 0 ≤ (x5_1 : Int) := of_decide_eq_true (by first | (with_reducible assumption) | assumption)
        have q179 : x5_1 < (l1.length : Int) := of_decide_eq_true (by first | (with_reducible assumption) | assumption)
        obtain ⟨ad179, e179, hx179_0⟩ := Kd.at_int HR1.out x5_1 p179 q179
        cases e179
        replace p179 := eq_true p179
        replace q179 := eq_true q179
        go_wp2
        repeat (go_quiet (fail); try go_wp2)
        go_ret
        exact ⟨by first | rfl | (simp; done) | (simp [*]; done), by repeat (first | exact Drawn0.refl _ | apply Drawn0.step)⟩
      ·rw [if_neg c6] at H
       exact absurd H (by simp)
     ·rw [if_neg c5] at H
      exact absurd H (by simp)
    ·rw [if_neg c4] at H
     have c4b0 : decide (x5_1 < (l0.length : Int)) = false := decide_eq_false c4
     clear c4
     obtain rfl := Option.some.inj H
     go_wp2
     repeat (go_quiet (fail); try go_wp2)
     go_ret
     exact ⟨by first | rfl | (simp; done) | (simp [*]; done), by repeat (first | exact Drawn0.refl _ | apply Drawn0.step)⟩
 ·rw [if_neg c3] at H
  have c3b0 : ((l0.length : Int) == (l1.length : Int)) = false := beq_eq_false_iff_ne.mpr c3
  have c3b1 : ((l0.length : Int) != (l1.length : Int)) = true := bne_iff_ne.mpr c3
  have c3b2 : (l0.length == l1.length) = false := by first | simpa using c3 | (simp at c3 ⊢; omega)
  obtain rfl := Option.some.inj H
  go_enter Try.func23, Try.ntmps23
  go_wp2
  repeat (go_quiet (fail); try go_wp2)
  go_ret
  exact ⟨by first | rfl | (simp; done) | (simp [*]; done), by repeat (first | exact Drawn0.refl _ | apply Drawn0.step)⟩
end Go.Proofs.Ytjfkompfkgjdaaa.PC
end
section
namespace Go.Proofs.Ytjfkompfkgjdaaa.PC
open Go.RowKit Go.Proofs.YtjfkompfkgjdaaaW.PrintWords Go.Proofs.YtjfkompfkgjdaaaW.PrintLast Go.Proofs.YtjfkompfkgjdaaaW.PrintMore
attribute [local go_sem] max2_int min2_int max_two min_two max_three min_three max_four min_four   -- for this text's walks alone
set_option linter.unusedVariables false
set_option linter.unusedSimpArgs false
/-! ### plait_diagram_height: function 78 -/
mutual
def plait_diagram_height.l0 : Nat → List Int → Int → Int → Int → Int → Option (Int)
 | 0, _, _, _, _, _ => none
 | k + 1, x0, x3, x4, x12, x13 => if x13 < x12 then (plait_diagram_height.l1 k x0 x3 x4 x13 0 x12 x13 x0 (x0.length : Int) 0) else (some (wrap64 (Int.tdiv x4 2)))
def plait_diagram_height.l1 : Nat → List Int → Int → Int → Int → Int → Int → Int → List Int → Int → Int → Option (Int)
 | 0, _, _, _, _, _, _, _, _, _, _ => none
 | k + 1, x0, x3, x4, x5, x6, x12, x13, x16, x17, x18 => if x18 < x17 then (if 0 ≤ x18 then (if x18 < (x16.length : Int) then (if x18 < (rd x16 x18) then (if x3 = 0 then (none) else (if ((decide ((Int.tmod x18 x3) ≤ x5)) != (decide ((Int.tmod (rd x16 x18) x3) ≤ x5))) = true then (plait_diagram_height.l1 k x0 x3 x4 x5 (wrap64 (x6 + 1)) x12 x13 x16 x17 (wrap64 (x18 + 1))) else (plait_diagram_height.l1 k x0 x3 x4 x5 x6 x12 x13 x16 x17 (wrap64 (x18 + 1))))) else (plait_diagram_height.l1 k x0 x3 x4 x5 x6 x12 x13 x16 x17 (wrap64 (x18 + 1)))) else (none)) else (none)) else (plait_diagram_height.l0 k x0 x3 (wrap64 (x4 + x6)) x12 (wrap64 (x13 + 1)))
end
def plait_diagram_height.f (k : Nat) (l0 : List Int) : Option (Int) := (plait_diagram_size.f l0).bind fun t139 => (plait_diagram_height.l0 k l0 t139 0 (wrap64 (t139 - 1)) 0)
theorem plait_diagram_height.mono_l : ∀ k, (∀ y0 y1 y2 y3 y4, LeO (plait_diagram_height.l0 k y0 y1 y2 y3 y4) (plait_diagram_height.l0 (k + 1) y0 y1 y2 y3 y4)) ∧ (∀ y0 y1 y2 y3 y4 y5 y6 y7 y8 y9, LeO (plait_diagram_height.l1 k y0 y1 y2 y3 y4 y5 y6 y7 y8 y9) (plait_diagram_height.l1 (k + 1) y0 y1 y2 y3 y4 y5 y6 y7 y8 y9))
 | 0 => ⟨fun _ _ _ _ _ r h => by simp [plait_diagram_height.l0] at h, fun _ _ _ _ _ _ _ _ _ _ r h => by simp [plait_diagram_height.l1] at h⟩
 | k + 1 => by
  obtain ⟨ih0, ih1⟩ := plait_diagram_height.mono_l k
  refine ⟨?_, ?_⟩
  ·intro y0 y1 y2 y3 y4
   unfold plait_diagram_height.l0
   repeat' first
   | (with_reducible exact ih0 _ _ _ _ _)
   | (with_reducible exact ih1 _ _ _ _ _ _ _ _ _ _)
   | (with_reducible exact LeO.refl _)
   | (with_reducible exact LeO.none _)
   | (with_reducible refine LeO.ite ?_ ?_)
   | (with_reducible refine LeO.bind ?_ (fun _ => ?_))
   | exact ih0 _ _ _ _ _
   | exact ih1 _ _ _ _ _ _ _ _ _ _
   | exact LeO.none _
   | refine LeO.ite ?_ ?_
   | refine LeO.bind ?_ (fun _ => ?_)
  ·intro y0 y1 y2 y3 y4 y5 y6 y7 y8 y9
   unfold plait_diagram_height.l1
   repeat' first
   | (with_reducible exact ih0 _ _ _ _ _)
   | (with_reducible exact ih1 _ _ _ _ _ _ _ _ _ _)
   | (with_reducible exact LeO.refl _)
   | (with_reducible exact LeO.none _)
   | (with_reducible refine LeO.ite ?_ ?_)
   | (with_reducible refine LeO.bind ?_ (fun _ => ?_))
   | exact ih0 _ _ _ _ _
   | exact ih1 _ _ _ _ _ _ _ _ _ _
   | exact LeO.none _
   | refine LeO.ite ?_ ?_
   | refine LeO.bind ?_ (fun _ => ?_)
theorem plait_diagram_height.mono : ∀ a0 k, LeO (plait_diagram_height.f k a0) (plait_diagram_height.f (k + 1) a0) := by
 intro a0 k
 obtain ⟨ih0, ih1⟩ := plait_diagram_height.mono_l k
 unfold plait_diagram_height.f
 repeat' first
   | (with_reducible exact ih0 _ _ _ _ _)
   | (with_reducible exact ih1 _ _ _ _ _ _ _ _ _ _)
   | (with_reducible exact LeO.refl _)
   | (with_reducible exact LeO.none _)
   | (with_reducible refine LeO.ite ?_ ?_)
   | (with_reducible refine LeO.bind ?_ (fun _ => ?_))
   | exact ih0 _ _ _ _ _
   | exact ih1 _ _ _ _ _ _ _ _ _ _
   | exact LeO.none _
   | refine LeO.ite ?_ ?_
   | refine LeO.bind ?_ (fun _ => ?_)
set_option maxHeartbeats 8000000 in
set_option maxRecDepth 100000 in
theorem plait_diagram_height.calls (k : Nat) (A0 : Option Addr) (c0 : Nat) (l0 : List Int) (r : Int) (w : World) (hr0 : Kd.C (Kd.int .i64) w A0 l0.length l0) (hc0 : l0.length ≤ c0) (h : plait_diagram_height.f k l0 = some r) :
  Calls Try.prog 78 #[.slice A0 l0.length c0] w fun e w' => e = .returned (.int .i64 r) ∧ Drawn0 w w' := by
 have HR0 := Aside0.mk hr0
 have HC0 := Aside0.mk hc0
 clear hr0 hc0
 have H : ((plait_diagram_size.f l0).bind fun t139 => (plait_diagram_height.l0 k l0 t139 0 (wrap64 (t139 - 1)) 0)) = some r := h
 clear h
 replace H := Option.bind_eq_some_iff.mp H
 obtain ⟨t139, A20, H⟩ := H
 replace H : (plait_diagram_height.l0 k l0 t139 0 (wrap64 (t139 - 1)) 0) = some r := H
 have A2 := Aside0.mk A20
 clear A20
 have H' := Aside0.mk H
 clear H
 go_enter Try.func78, Try.ntmps78
 go_wp2_with (first | (go_at_call 72; (with_reducible refine (plait_diagram_size.calls _ _ l0 t139 _ ?side1 ?side2 A2.out).mono ?_); (case side1 => repeat (first | exact HR0.out | (with_reducible refine Kd.C_alloc ?_ _) | (with_reducible refine Kd.C_drewN ?_ _) | (with_reducible refine Kd.C_drew ?_))); (case side2 => exact HC0.out); rintro e w' ⟨rfl, ⟨nd, rfl⟩⟩; (try first | exact ⟨rfl, _, World.drewN_drewN _ _ _⟩ | exact ⟨rfl, _, Eq.trans (World.drewN_drewN _ _ _) (congrArg (World.drewN _) (Nat.add_assoc _ _ _))⟩)))
 repeat (go_quiet (first | (go_at_call 72; (with_reducible refine (plait_diagram_size.calls _ _ l0 t139 _ ?side1 ?side2 A2.out).mono ?_); (case side1 => repeat (first | exact HR0.out | (with_reducible refine Kd.C_alloc ?_ _) | (with_reducible refine Kd.C_drewN ?_ _) | (with_reducible refine Kd.C_drew ?_))); (case side2 => exact HC0.out); rintro e w' ⟨rfl, ⟨nd, rfl⟩⟩; (try first | exact ⟨rfl, _, World.drewN_drewN _ _ _⟩ | exact ⟨rfl, _, Eq.trans (World.drewN_drewN _ _ _) (congrArg (World.drewN _) (Nat.add_assoc _ _ _))⟩))); try go_wp2_with (first | (go_at_call 72; (with_reducible refine (plait_diagram_size.calls _ _ l0 t139 _ ?side1 ?side2 A2.out).mono ?_); (case side1 => repeat (first | exact HR0.out | (with_reducible refine Kd.C_alloc ?_ _) | (with_reducible refine Kd.C_drewN ?_ _) | (with_reducible refine Kd.C_drew ?_))); (case side2 => exact HC0.out); rintro e w' ⟨rfl, ⟨nd, rfl⟩⟩; (try first | exact ⟨rfl, _, World.drewN_drewN _ _ _⟩ | exact ⟨rfl, _, Eq.trans (World.drewN_drewN _ _ _) (congrArg (World.drewN _) (Nat.add_assoc _ _ _))⟩))))
 go_loopg [4, 13] k (fun kq v4 v13 w' => ∃ (x4_1 : Int) (x13_1 : Int), v4 = .int .i64 x4_1 ∧ v13 = .int .i64 x13_1 ∧ Aside0 (plait_diagram_height.l0 kq l0 t139 x4_1 (wrap64 (t139 - 1)) x13_1 = some r) ∧ Aside0 (kq ≤ k) ∧ Drawn0 w w')
 case atStart => exact ⟨(0), (0), (by first | rfl | (simp; done) | (simp [*]; done)), (by first | rfl | (simp; done) | (simp [*]; done)), H', ⟨Nat.le_refl _⟩, by repeat (first | exact Drawn0.refl _ | apply Drawn0.step)⟩
 case round =>
  clear H'
  try clear p2
  obtain ⟨x4_1, x13_1, rfl, rfl, HA, HK1, ⟨m1, rfl⟩⟩ := hrel
  cases gk with
  | zero => exact absurd HA.out (by simp [plait_diagram_height.l0])
  | succ k1 =>
   have H := HA.out
   clear HA
   simp only [plait_diagram_height.l0] at H
   by_cases c3 : x13_1 < (wrap64 (t139 - 1))
   ·rw [if_pos c3] at H
    have c3b0 : decide (x13_1 < (wrap64 (t139 - 1))) = true := decide_eq_true c3
    clear c3
    have H' := Aside0.mk H
    clear H
    go_wp2
    repeat (go_quiet (fail); try go_wp2)
    go_loopg [6, 18] k1 (fun kq v6 v18 w' => ∃ (x6_2 : Int) (x18_2 : Int), v6 = .int .i64 x6_2 ∧ v18 = .int .i64 x18_2 ∧ Aside0 (plait_diagram_height.l1 kq l0 t139 x4_1 x13_1 x6_2 (wrap64 (t139 - 1)) x13_1 l0 (l0.length : Int) x18_2 = some r) ∧ Aside0 (kq ≤ k1) ∧ Drawn0 w w')
    case atStart => exact ⟨(0), (0), (by first | rfl | (simp; done) | (simp [*]; done)), (by first | rfl | (simp; done) | (simp [*]; done)), H', ⟨Nat.le_refl _⟩, by repeat (first | exact Drawn0.refl _ | apply Drawn0.step)⟩
    case round =>
     clear H'
     try clear p2
     try clear c3
     try clear c3b0
     try clear p2
     obtain ⟨x6_2, x18_2, rfl, rfl, HA, HK2, ⟨m2, rfl⟩⟩ := hrel
     cases gk with
     | zero => exact absurd HA.out (by simp [plait_diagram_height.l1])
     | succ k2 =>
      have H := HA.out
      clear HA
      simp only [plait_diagram_height.l1] at H
      by_cases c4 : x18_2 < (l0.length : Int)
      ·rw [if_pos c4] at H
       have c4b0 : decide (x18_2 < (l0.length : Int)) = true := decide_eq_true c4
       clear c4
       by_cases c5 : 0 ≤ x18_2
       ·rw [if_pos c5] at H
        have c5b0 : decide (0 ≤ x18_2) = true := decide_eq_true c5
        clear c5
        by_cases c6 : x18_2 < (l0.length : Int)
        ·rw [if_pos c6] at H
         have c6b0 : decide (x18_2 < (l0.length : Int)) = true := decide_eq_true c6
         clear c6
         by_cases c7 : x18_2 < (rd l0 x18_2)
         ·rw [if_pos c7] at H
          have c7b0 : decide (x18_2 < (rd l0 x18_2)) = true := decide_eq_true c7
          clear c7
          by_cases c8 : t139 = 0
          ·rw [if_pos c8] at H
           exact absurd H (by simp)
          ·rw [if_neg c8] at H
           have c8b0 : (t139 == 0) = false := beq_eq_false_iff_ne.mpr c8
           have c8b1 : (t139 != 0) = true := bne_iff_ne.mpr c8
           by_cases c9 : ((decide ((Int.tmod x18_2 t139) ≤ x13_1)) != (decide ((Int.tmod (rd l0 x18_2) t139) ≤ x13_1))) = true
           ·rw [if_pos c9] at H
            have c9b0 : ((decide ((Int.tmod x18_2 t139) ≤ x13_1)) != (decide ((Int.tmod (rd l0 x18_2) t139) ≤ x13_1))) = true := c9
            (try (have c9b1 : decide ((decide ((Int.tmod x18_2 t139) ≤ x13_1)) = (decide ((Int.tmod (rd l0 x18_2) t139) ≤ x13_1))) = false := by simpa using c9))
            (try (have c9b2 : ((decide ((Int.tmod x18_2 t139) ≤ x13_1)) == (decide ((Int.tmod (rd l0 x18_2) t139) ≤ x13_1))) = false := by simpa using c9))
            (try (have c9b3 : ¬ ((decide ((Int.tmod x18_2 t139) ≤ x13_1)) = (decide ((Int.tmod (rd l0 x18_2) t139) ≤ x13_1))) := by simpa using c9))
            clear c9
            have H' := Aside0.mk H
            clear H
            have p140 : 0 ≤ (x18_2 : Int) := of_decide_eq_true (by first | (with_reducible assumption) | assumption)
            have q140 : x18_2 < (l0.length : Int) := of_decide_eq_true (by first | (with_reducible assumption) | assumption)
            obtain ⟨ad140, e140, hx140_0⟩ := Kd.at_int HR0.out x18_2 p140 q140
            cases e140
            replace p140 := eq_true p140
            replace q140 := eq_true q140
            go_wp2
            repeat (go_quiet (fail); try go_wp2)
            go_roundg k2
            case measure => have := HK1.out; have := HK2.out; omega
            case rel => exact ⟨(wrap64 (x6_2 + 1)), (wrap64 (x18_2 + 1)), (by first | rfl | (simp; done) | (simp [*]; done)), (by first | rfl | (simp; done) | (simp [*]; done)), H', ⟨by have := HK1.out; have := HK2.out; omega⟩, by repeat (first | exact Drawn0.refl _ | apply Drawn0.step)⟩
           ·rw [if_neg c9] at H
            have c9b0 : ((decide ((Int.tmod x18_2 t139) ≤ x13_1)) != (decide ((Int.tmod (rd l0 x18_2) t139) ≤ x13_1))) = false := by simpa using c9
            (try (have c9b1 : decide ((decide ((Int.tmod x18_2 t139) ≤ x13_1)) = (decide ((Int.tmod (rd l0 x18_2) t139) ≤ x13_1))) = true := by simpa using c9))
            (try (have c9b2 : ((decide ((Int.tmod x18_2 t139) ≤ x13_1)) == (decide ((Int.tmod (rd l0 x18_2) t139) ≤ x13_1))) = true := by simpa using c9))
            clear c9
            have H' := Aside0.mk H
            clear H
            have p140 : 0 ≤ (x18_2 : Int) := of_decide_eq_true (by first | (with_reducible assumption) | assumption)
            have q140 : x18_2 < (l0.length : Int) := of_decide_eq_true (by first | (with_reducible assumption) | assumption)
            obtain ⟨ad140, e140, hx140_0⟩ := Kd.at_int HR0.out x18_2 p140 q140
            cases e140
            replace p140 := eq_true p140
            replace q140 := eq_true q140
            go_wp2
            repeat (go_quiet (fail); try go_wp2)
            go_roundg k2
            case measure => have := HK1.out; have := HK2.out; omega
            case rel => exact ⟨(x6_2), (wrap64 (x18_2 + 1)), (by first | rfl | (simp; done) | (simp [*]; done)), (by first | rfl | (simp; done) | (simp [*]; done)), H', ⟨by have := HK1.out; have := HK2.out; omega⟩, by repeat (first | exact Drawn0.refl _ | apply Drawn0.step)⟩
         ·rw [if_neg c7] at H
          have c7b0 : decide (x18_2 < (rd l0 x18_2)) = false := decide_eq_false c7
          clear c7
          have H' := Aside0.mk H
          clear H
          have p140 : 0 ≤ (x18_2 : Int) := of_decide_eq_true (by first | (with_reducible assumption) | assumption)
          have q140 : x18_2 < (l0.length : Int) := of_decide_eq_true (by first | (with_reducible assumption) | assumption)
          obtain ⟨ad140, e140, hx140_0⟩ := Kd.at_int HR0.out x18_2 p140 q140
          cases e140
          replace p140 := eq_true p140
          replace q140 := eq_true q140
          go_wp2
          repeat (go_quiet (fail); try go_wp2)
          go_roundg k2
          case measure => have := HK1.out; have := HK2.out; omega
          case rel => exact ⟨(x6_2), (wrap64 (x18_2 + 1)), (by first | rfl | (simp; done) | (simp [*]; done)), (by first | rfl | (simp; done) | (simp [*]; done)), H', ⟨by have := HK1.out; have := HK2.out; omega⟩, by repeat (first | exact Drawn0.refl _ | apply Drawn0.step)⟩
        ·rw [if_neg c6] at H
         exact absurd H (by simp)
       ·rw [if_neg c5] at H
        exact absurd H (by simp)
      ·rw [if_neg c4] at H
       have c4b0 : decide (x18_2 < (l0.length : Int)) = false := decide_eq_false c4
       clear c4
       have H' := Aside0.mk H
       clear H
       go_wp2
       repeat (go_quiet (fail); try go_wp2)
       go_roundg k2
       case measure => have := HK1.out; have := HK2.out; omega
       case rel => exact ⟨(wrap64 (x4_1 + x6_2)), (wrap64 (x13_1 + 1)), (by first | rfl | (simp; done) | (simp [*]; done)), (by first | rfl | (simp; done) | (simp [*]; done)), H', ⟨by have := HK1.out; have := HK2.out; omega⟩, by repeat (first | exact Drawn0.refl _ | apply Drawn0.step)⟩
   ·rw [if_neg c3] at H
    have c3b0 : decide (x13_1 < (wrap64 (t139 - 1))) = false := decide_eq_false c3
    clear c3
    obtain rfl := Option.some.inj H
    go_wp2
    repeat (go_quiet (fail); try go_wp2)
    go_ret
    exact ⟨by first | rfl | (simp; done) | (simp [*]; done), by repeat (first | exact Drawn0.refl _ | apply Drawn0.step)⟩
/-! ### plait_diagram_int_69: function 69 -/
def plait_diagram_int_69.l0 : Nat → List Int → List Int → Int → Int → Option (Bool)
 | 0, _, _, _, _ => none
 | k + 1, x0, x1, x12, x13 => if x13 < x12 then (if 0 ≤ x13 then (if x13 < (x0.length : Int) then (if x13 < (x1.length : Int) then (if (rd x0 x13) = (rd x1 x13) then (plait_diagram_int_69.l0 k x0 x1 x12 (wrap64 (x13 + 1))) else (some false)) else (none)) else (none)) else (none)) else (some true)
def plait_diagram_int_69.f (k : Nat) (l0 : List Int) (l1 : List Int) : Option (Bool) := if (l0.length : Int) = (l1.length : Int) then (plait_diagram_int_69.l0 k l0 l1 (l0.length : Int) 0) else (some false)
theorem plait_diagram_int_69.mono_l : ∀ k, (∀ y0 y1 y2 y3, LeO (plait_diagram_int_69.l0 k y0 y1 y2 y3) (plait_diagram_int_69.l0 (k + 1) y0 y1 y2 y3))
 | 0 => fun _ _ _ _ r h => by simp [plait_diagram_int_69.l0] at h
 | k + 1 => by
  have ih0 := plait_diagram_int_69.mono_l k
  ·intro y0 y1 y2 y3
   unfold plait_diagram_int_69.l0
   repeat' first
   | (with_reducible exact ih0 _ _ _ _)
   | (with_reducible exact LeO.refl _)
   | (with_reducible exact LeO.none _)
   | (with_reducible refine LeO.ite ?_ ?_)
   | (with_reducible refine LeO.bind ?_ (fun _ => ?_))
   | exact ih0 _ _ _ _
   | exact LeO.none _
   | refine LeO.ite ?_ ?_
   | refine LeO.bind ?_ (fun _ => ?_)
theorem plait_diagram_int_69.mono : ∀ a0 a1 k, LeO (plait_diagram_int_69.f k a0 a1) (plait_diagram_int_69.f (k + 1) a0 a1) := by
 intro a0 a1 k
 have ih0 := plait_diagram_int_69.mono_l k
 unfold plait_diagram_int_69.f
 repeat' first
   | (with_reducible exact ih0 _ _ _ _)
   | (with_reducible exact LeO.refl _)
   | (with_reducible exact LeO.none _)
   | (with_reducible refine LeO.ite ?_ ?_)
   | (with_reducible refine LeO.bind ?_ (fun _ => ?_))
   | exact ih0 _ _ _ _
   | exact LeO.none _
   | refine LeO.ite ?_ ?_
   | refine LeO.bind ?_ (fun _ => ?_)
set_option maxHeartbeats 8000000 in
set_option maxRecDepth 100000 in
theorem plait_diagram_int_69.calls (k : Nat) (A0 : Option Addr) (c0 : Nat) (l0 : List Int) (A1 : Option Addr) (c1 : Nat) (l1 : List Int) (r : Bool) (w : World) (hr0 : Kd.C (Kd.int .i64) w A0 l0.length l0) (hc0 : l0.length ≤ c0) (hr1 : Kd.C (Kd.int .i64) w A1 l1.length l1) (hc1 : l1.length ≤ c1) (h : plait_diagram_int_69.f k l0 l1 = some r) :
  Calls Try.prog 69 #[.slice A0 l0.length c0, .slice A1 l1.length c1] w fun e w' => e = .returned (.bool r) ∧ Drawn0 w w' := by
 have HR0 := Aside0.mk hr0
 have HC0 := Aside0.mk hc0
 clear hr0 hc0
 have HR1 := Aside0.mk hr1
 have HC1 := Aside0.mk hc1
 clear hr1 hc1
 have H : (if (l0.length : Int) = (l1.length : Int) then (plait_diagram_int_69.l0 k l0 l1 (l0.length : Int) 0) else (some false)) = some r := h
 clear h
 by_cases c3 : (l0.length : Int) = (l1.length : Int)
 ·rw [if_pos c3] at H
  have c3b0 : ((l0.length : Int) == (l1.length : Int)) = true := beq_iff_eq.mpr c3
  have c3b1 : ((l0.length : Int) != (l1.length : Int)) = false := bne_eq_false_iff_eq.mpr c3
  have c3b2 : (l0.length == l1.length) = true := by first | simpa using c3 | (simp at c3 ⊢; omega)
  clear c3
  have H' := Aside0.mk H
  clear H
  go_enter Try.func69, Try.ntmps69
  go_wp2
  repeat (go_quiet (fail); try go_wp2)
  go_loopg [13] k (fun kq v13 w' => ∃ (x13_1 : Int), v13 = .int .i64 x13_1 ∧ Aside0 (plait_diagram_int_69.l0 kq l0 l1 (l0.length : Int) x13_1 = some r) ∧ Aside0 (kq ≤ k) ∧ Drawn0 w w')
  case atStart => exact ⟨(0), (by first | rfl | (simp; done) | (simp [*]; done)), H', ⟨Nat.le_refl _⟩, by repeat (first | exact Drawn0.refl _ | apply Drawn0.step)⟩
  case round =>
   clear H'
   try clear c1
   try clear p2
   try clear c3
   try clear c3b0
   try clear c3b1
   try clear c3b2
   obtain ⟨x13_1, rfl, HA, HK1, ⟨m1, rfl⟩⟩ := hrel
   cases gk with
   | zero => exact absurd HA.out (by simp [plait_diagram_int_69.l0])
   | succ k1 =>
    have H := HA.out
    clear HA
    simp only [plait_diagram_int_69.l0] at H
    by_cases c4 : x13_1 < (l0.length : Int)
    ·rw [if_pos c4] at H
     have c4b0 : decide (x13_1 < (l0.length : Int)) = true := decide_eq_true c4
     clear c4
     by_cases c5 : 0 ≤ x13_1
     ·rw [if_pos c5] at H
      have c5b0 : decide (0 ≤ x13_1) = true := decide_eq_true c5
      clear c5
      by_cases c6 : x13_1 < (l0.length : Int)
      ·rw [if_pos c6] at H
       have c6b0 : decide (x13_1 < (l0.length : Int)) = true := decide_eq_true c6
       clear c6
       by_cases c7 : x13_1 < (l1.length : Int)
       ·rw [if_pos c7] at H
        have c7b0 : decide (x13_1 < (l1.length : Int)) = true := decide_eq_true c7
        clear c7
        by_cases c8 : (rd l0 x13_1) = (rd l1 x13_1)
        ·rw [if_pos c8] at H
         have c8b0 : ((rd l0 x13_1) == (rd l1 x13_1)) = true := beq_iff_eq.mpr c8
         have c8b1 : ((rd l0 x13_1) != (rd l1 x13_1)) = false := bne_eq_false_iff_eq.mpr c8
         clear c8
         have H' := Aside0.mk H
         clear H
         have p144 : 0 ≤ (x13_1 : Int) := of_decide_eq_true (by first | (with_reducible assumption) | assumption)
         have q144 : x13_1 < (l0.length : Int) := of_decide_eq_true (by first | (with_reducible assumption) | assumption)
         obtain ⟨ad144, e144, hx144_0⟩ := Kd.at_int HR0.out x13_1 p144 q144
         cases e144
         replace p144 := eq_true p144
         replace q144 := eq_true q144
         have p145 : 0 ≤ (x13_1 : Int) := of_decide_eq_true (by first | (with_reducible assumption) | assumption)
         have q145 : x13_1 < (l1.length : Int) := of_decide_eq_true (by first | (with_reducible assumption) | assumption)
         obtain ⟨ad145, e145, hx145_0⟩ := Kd.at_int HR1.out x13_1 p145 q145
         cases e145
         replace p145 := eq_true p145
         replace q145 := eq_true q145
         go_wp2
         repeat (go_quiet (fail); try go_wp2)
         go_roundg k1
         case measure => have := HK1.out; omega
         case rel => exact ⟨(wrap64 (x13_1 + 1)), (by first | rfl | (simp; done) | (simp [*]; done)), H', ⟨by have := HK1.out; omega⟩, by repeat (first | exact Drawn0.refl _ | apply Drawn0.step)⟩
        ·rw [if_neg c8] at H
         have c8b0 : ((rd l0 x13_1) == (rd l1 x13_1)) = false := beq_eq_false_iff_ne.mpr c8
         have c8b1 : ((rd l0 x13_1) != (rd l1 x13_1)) = true := bne_iff_ne.mpr c8
         obtain rfl := Option.some.inj H
         have p144 : 0 ≤ (x13_1 : Int) := of_decide_eq_true (by first | (with_reducible assumption) | assumption)
         have q144 : x13_1 < (l0.length : Int) := of_decide_eq_true (by first | (with_reducible assumption) | assumption)
         obtain ⟨ad144, e144, hx144_0⟩ := Kd.at_int HR0.out x13_1 p144 q144
         cases e144
         replace p144 := eq_true p144
         replace q144 := eq_true q144
         have p145 : 0 ≤ (x13_1 : Int) := of_decide_eq_true (by first | (with_reducible assumption) | assumption)
         have q145 : x13_1 < (l1.length : Int) := of_decide_eq_true (by first | (with_reducible assumption) | assumption)
         obtain ⟨ad145, e145, hx145_0⟩ := Kd.at_int HR1.out x13_1 p145 q145
         cases e145
         replace p145 := eq_true p145
         replace q145 := eq_true q145
         go_wp2
         repeat (go_quiet (fail); try go_wp2)
         go_ret
         exact ⟨by first | rfl | (simp; done) | (simp [*]; done), by repeat (first | exact Drawn0.refl _ | apply Drawn0.step)⟩
       ·rw [if_neg c7] at H
        exact absurd H (by simp)
      ·rw [if_neg c6] at H
       exact absurd H (by simp)
     ·rw [if_neg c5] at H
      exact absurd H (by simp)
    ·rw [if_neg c4] at H
     have c4b0 : decide (x13_1 < (l0.length : Int)) = false := decide_eq_false c4
     clear c4
     obtain rfl := Option.some.inj H
     go_wp2
     repeat (go_quiet (fail); try go_wp2)
     go_ret
     exact ⟨by first | rfl | (simp; done) | (simp [*]; done), by repeat (first | exact Drawn0.refl _ | apply Drawn0.step)⟩
 ·rw [if_neg c3] at H
  have c3b0 : ((l0.length : Int) == (l1.length : Int)) = false := beq_eq_false_iff_ne.mpr c3
  have c3b1 : ((l0.length : Int) != (l1.length : Int)) = true := bne_iff_ne.mpr c3
  have c3b2 : (l0.length == l1.length) = false := by first | simpa using c3 | (simp at c3 ⊢; omega)
  obtain rfl := Option.some.inj H
  go_enter Try.func69, Try.ntmps69
  go_wp2
  repeat (go_quiet (fail); try go_wp2)
  go_ret
  exact ⟨by first | rfl | (simp; done) | (simp [*]; done), by repeat (first | exact Drawn0.refl _ | apply Drawn0.step)⟩
/-! ### plait_identity: function 76 -/
def plait_identity.l0 : Nat → Int → List Int → Int → Int → Option (List Int)
 | 0, _, _, _, _ => none
 | k + 1, x0, x3, x8, x9 => if x9 < x8 then (if 0 ≤ x9 then (if x9 < (x3.length : Int) then (if 0 ≤ (wrap64 (x0 + x9)) then (if (wrap64 (x0 + x9)) < (x3.length : Int) then (plait_identity.l0 k x0 ((x3.set (x9 : Int).toNat (wrap64 (x0 + x9))).set ((wrap64 (x0 + x9)) : Int).toNat x9) x8 (wrap64 (x9 + 1))) else (none)) else (none)) else (none)) else (none)) else (some x3)
def plait_identity.f (k : Nat) (a0 : Int) : Option (List Int) := if 0 ≤ (wrap64 (2 * a0)) then (if (wrap64 (2 * a0) : Int).toNat ≤ 35184372088832 then (plait_identity.l0 k a0 (List.replicate (wrap64 (2 * a0) : Int).toNat 0) a0 0) else (none)) else (none)
theorem plait_identity.mono_l : ∀ k, (∀ y0 y1 y2 y3, LeO (plait_identity.l0 k y0 y1 y2 y3) (plait_identity.l0 (k + 1) y0 y1 y2 y3))
 | 0 => fun _ _ _ _ r h => by simp [plait_identity.l0] at h
 | k + 1 => by
  have ih0 := plait_identity.mono_l k
  ·intro y0 y1 y2 y3
   unfold plait_identity.l0
   repeat' first
   | (with_reducible exact ih0 _ _ _ _)
   | (with_reducible exact LeO.refl _)
   | (with_reducible exact LeO.none _)
   | (with_reducible refine LeO.ite ?_ ?_)
   | (with_reducible refine LeO.bind ?_ (fun _ => ?_))
   | exact ih0 _ _ _ _
   | exact LeO.none _
   | refine LeO.ite ?_ ?_
   | refine LeO.bind ?_ (fun _ => ?_)
theorem plait_identity.mono : ∀ a0 k, LeO (plait_identity.f k a0) (plait_identity.f (k + 1) a0) := by
 intro a0 k
 have ih0 := plait_identity.mono_l k
 unfold plait_identity.f
 repeat' first
   | (with_reducible exact ih0 _ _ _ _)
   | (with_reducible exact LeO.refl _)
   | (with_reducible exact LeO.none _)
   | (with_reducible refine LeO.ite ?_ ?_)
   | (with_reducible refine LeO.bind ?_ (fun _ => ?_))
   | exact ih0 _ _ _ _
   | exact LeO.none _
   | refine LeO.ite ?_ ?_
   | refine LeO.bind ?_ (fun _ => ?_)
set_option maxHeartbeats 8000000 in
set_option maxRecDepth 100000 in
theorem plait_identity.calls (k : Nat) (a0 : Int) (r : List Int) (w : World) (h : plait_identity.f k a0 = some r) :
  Calls Try.prog 76 #[.int .i64 a0] w fun e w' => ∃ v0_ : Value, e = .returned (v0_) ∧ Kd.R (Kd.int .i64) 3 w' w.heap.size (fun _ => True) v0_ r ∧ Below w.heap.size w w' := by
 have HB := Aside0.mk (Below.refl w.heap.size w)
 have H : (if 0 ≤ (wrap64 (2 * a0)) then (if (wrap64 (2 * a0) : Int).toNat ≤ 35184372088832 then (plait_identity.l0 k a0 (List.replicate (wrap64 (2 * a0) : Int).toNat 0) a0 0) else (none)) else (none)) = some r := h
 clear h
 obtain ⟨ji2, hji2⟩ : ∃ j_ : Int, (wrap64 (2 * a0)) = j_ := ⟨_, rfl⟩
 replace H : (if 0 ≤ (ji2) then (if (ji2 : Int).toNat ≤ 35184372088832 then (plait_identity.l0 k a0 (List.replicate (ji2 : Int).toNat 0) a0 0) else (none)) else (none)) = some r := by first | (rw [hji2] at H; exact H) | (simp only [hji2] at H ⊢; exact H)
 have hji2w : (IntKind.i64.wrap (2 * a0)) = ji2 := (i64_w _).trans hji2
 by_cases c3 : 0 ≤ (ji2)
 ·rw [if_pos c3] at H
  have c3b0 := eq_true c3
  have c3b1 : decide (0 ≤ (ji2)) = true := decide_eq_true c3
  clear c3
  by_cases c4 : (ji2 : Int).toNat ≤ 35184372088832
  ·rw [if_pos c4] at H
   have c4b0 := eq_true c4
   have c4b1 : decide ((ji2 : Int).toNat ≤ 35184372088832) = true := decide_eq_true c4
   clear c4
   obtain ⟨y146, hy146⟩ : ∃ y_ : List Int, y_ = (List.replicate (ji2 : Int).toNat 0) := ⟨_, rfl⟩
   replace H : (plait_identity.l0 k a0 y146 a0 0) = some r := by first | (rw [hy146]; with_reducible exact H) | (have H2_ := (Option.bind_some _ _).symm.trans H; rw [hy146]; with_reducible exact H2_) | (have H2_ := (Option.bind_some _ _).symm.trans H; with_reducible exact H2_) | with_reducible exact H | (rw [hy146]; exact H) | exact H
   have Ny146 := Aside0.mk hy146
   clear hy146
   have H' := Aside0.mk H
   clear H
   go_enter Try.func76, Try.ntmps76
   go_wp2_with (first | ((with_reducible refine gate_dst (N := 7) rfl ?_); refine Kd.R_make (Kd.int .i64) _ 3 rfl (N := 7) rfl 65 _ _ rfl ji2 rfl rfl Try.underlying65 (.int .i64 0) 8 info3 rfl (by decide) (by omega) 0 (ok := fun _ => True) (okp := fun _ => True) rfl (fun _ hk => hk) trivial (of_decide_eq_true (by first | (with_reducible assumption) | assumption)) (Nat.le_trans (Nat.mul_le_mul_right _ (of_decide_eq_true (by first | (with_reducible assumption) | assumption) : ji2.toNat ≤ 35184372088832)) (by omega)) (Below.refl _ _) (Nat.le_refl _) ?_; intro v147 w5 ho6 hb hg_ hnew_; clear hg_ hnew_; (first | rw [← Ny146.out] at ho6 | (simp only [Int.reduceToNat] at ho6; rw [← Ny146.out] at ho6)); have n0_ := Aside0.mk (Kd.R_lower ho6 (below_size (by repeat (first | (with_reducible first | exact HB.out | apply below_alloc | apply pw_below_drewN | apply below_drew1) | exact HB.out)))); have n1_ := Aside0.mk (below_step (by repeat (first | (with_reducible first | exact HB.out | apply below_alloc | apply pw_below_drewN | apply below_drew1) | exact HB.out)) hb); clear HB; have HO148 := n0_; have HB := n1_; clear n0_ n1_; clear hb ho6))
   go_loopg [9] k (fun kq v9 w' => ∃ (x3_1 : List Int) (x9_1 : Int), v9 = .int .i64 x9_1 ∧ Aside0 (plait_identity.l0 kq a0 x3_1 a0 x9_1 = some r) ∧ Aside0 (kq ≤ k) ∧ Aside0 (Kd.R (Kd.int .i64) 3 w' w.heap.size (fun _ => True) v147 x3_1) ∧ Aside0 (Below w.heap.size w w'))
   case atStart => exact ⟨(y146), (0), (by first | rfl | (simp; done) | (simp [*]; done)), H', ⟨Nat.le_refl _⟩, ⟨by (with_reducible repeat (first | apply Kd.R_alloc | apply Kd.R_drewN | apply Kd.R_drew)); exact HO148.out⟩, ⟨by repeat (first | (with_reducible first | exact HB.out | apply below_alloc | apply pw_below_drewN | apply below_drew1) | exact HB.out)⟩⟩
   case round =>
    clear H'
    try clear p2
    try clear c3
    try clear c3b0
    try clear c3b1
    try clear c4
    try clear c4b0
    try clear c4b1
    try clear p6
    obtain ⟨x3_1, x9_1, rfl, HA, HK1, HO_3, HB⟩ := hrel
    cases gk with
    | zero => exact absurd HA.out (by simp [plait_identity.l0])
    | succ k1 =>
     have H := HA.out
     clear HA
     simp only [plait_identity.l0] at H
     by_cases c7 : x9_1 < a0
     ·rw [if_pos c7] at H
      have c7b0 : decide (x9_1 < a0) = true := decide_eq_true c7
      clear c7
      by_cases c8 : 0 ≤ x9_1
      ·rw [if_pos c8] at H
       have c8b0 : decide (0 ≤ x9_1) = true := decide_eq_true c8
       clear c8
       by_cases c9 : x9_1 < (x3_1.length : Int)
       ·rw [if_pos c9] at H
        have c9b0 : decide (x9_1 < (x3_1.length : Int)) = true := decide_eq_true c9
        clear c9
        obtain ⟨y149, hy149⟩ : ∃ y_ : List Int, y_ = (x3_1.set (x9_1 : Int).toNat (wrap64 (a0 + x9_1))) := ⟨_, rfl⟩
        replace H : (if 0 ≤ (wrap64 (a0 + x9_1)) then (if (wrap64 (a0 + x9_1)) < (x3_1.length : Int) then (plait_identity.l0 k1 a0 (y149.set ((wrap64 (a0 + x9_1)) : Int).toNat x9_1) a0 (wrap64 (x9_1 + 1))) else (none)) else (none)) = some r := by first | (rw [hy149]; with_reducible exact H) | (have H2_ := (Option.bind_some _ _).symm.trans H; rw [hy149]; with_reducible exact H2_) | (have H2_ := (Option.bind_some _ _).symm.trans H; with_reducible exact H2_) | with_reducible exact H | (rw [hy149]; exact H) | exact H
        have Ny149 := Aside0.mk hy149
        clear hy149
        obtain ⟨ji11, hji11⟩ : ∃ j_ : Int, (wrap64 (a0 + x9_1)) = j_ := ⟨_, rfl⟩
        replace H : (if 0 ≤ (ji11) then (if (ji11) < (x3_1.length : Int) then (plait_identity.l0 k1 a0 (y149.set ((ji11) : Int).toNat x9_1) a0 (wrap64 (x9_1 + 1))) else (none)) else (none)) = some r := by first | (rw [hji11] at H; exact H) | (simp only [hji11] at H ⊢; exact H)
        (try rw [hji11] at Ny149)
        have hji11w : (IntKind.i64.wrap (a0 + x9_1)) = ji11 := (i64_w _).trans hji11
        by_cases c12 : 0 ≤ (ji11)
        ·rw [if_pos c12] at H
         have c12b0 : decide (0 ≤ (ji11)) = true := decide_eq_true c12
         clear c12
         by_cases c13 : (ji11) < (x3_1.length : Int)
         ·rw [if_pos c13] at H
          have c13b0 : decide ((ji11) < (x3_1.length : Int)) = true := decide_eq_true c13
          clear c13
          obtain ⟨y150, hy150⟩ : ∃ y_ : List Int, y_ = (y149.set ((ji11) : Int).toNat x9_1) := ⟨_, rfl⟩
          replace H : (plait_identity.l0 k1 a0 y150 a0 (wrap64 (x9_1 + 1))) = some r := by first | (rw [hy150]; with_reducible exact H) | (have H2_ := (Option.bind_some _ _).symm.trans H; rw [hy150]; with_reducible exact H2_) | (have H2_ := (Option.bind_some _ _).symm.trans H; with_reducible exact H2_) | with_reducible exact H | (rw [hy150]; exact H) | exact H
          have Ny150 := Aside0.mk hy150
          clear hy150
          have H' := Aside0.mk H
          clear H
          have p10 : 0 ≤ (x9_1 : Int) := of_decide_eq_true (by first | (with_reducible assumption) | assumption)
          have q10 : (x9_1 : Int) < ((x3_1.length : Int) : Int) := of_decide_eq_true (by first | (with_reducible assumption) | assumption)
          obtain ⟨go10, co10, eo10, gb10, gl10, cl10, HG10⟩ := Kd.R_form HO_3.out (by omega)
          (first | cases eo10 | (injection eo10 with ea_ en_ ec_; (first | subst ea_ | (injection ea_ with ea_; subst ea_)); subst ec_; clear en_))
          have GB10 := Aside0.mk gb10
          have GG10 := Aside0.mk HG10
          clear gb10 gl10 HG10
          obtain ⟨hx10_0, hf10_0⟩ := Kd.R_celln 0 HO_3.out (x9_1 : Int) p10 q10
          replace p10 := eq_true p10
          replace q10 := eq_true q10
          have HP15 := Kd.R_putg HO_3.out (x9_1 : Int) ji11
          go_wp2_with (first | ((with_reducible refine gate_store (t := 3) (p := 22) rfl ?_); refine store_event (t := 3) (p := 22) (v := ?vo_w16) (w1 := (wr.setCell ⟨go10, (x9_1 : Int).toNat, none⟩ (.int .i64 ji11))) ?hg ?ho ?hn ?hr ?_; (case ho => rfl); (case hg => rfl); (case hn => rfl); (case hr => first | (go_simp; done) | (go_simp; rfl)); intro w16 hw; have hg : wr.grownBy w16 (some go10) := (by rw [hw]; exact HP15.2); have hp_ : Kd.R (Kd.int .i64) 3 w16 w.heap.size (fun _ => True) (.slice (some ⟨go10, 0, none⟩) x3_1.length co10) y149 := (by rw [hw, Ny149.out]; exact HP15.1); clear HP15; have n0_ := Aside0.mk (hp_); have n1_ := Aside0.mk ((by rw [hw]; exact below_set (HB.out) GB10.out : Below w.heap.size w w16)); clear HO_3; clear HB; have HO_3 := n0_; have HB := n1_; clear n0_ n1_; clear hg hw hp_; have p14 : 0 ≤ ((ji11) : Int) := of_decide_eq_true (by first | (with_reducible assumption) | assumption); have q14 : ((ji11) : Int) < ((x3_1.length : Int) : Int) := of_decide_eq_true (by first | (with_reducible assumption) | assumption); obtain ⟨hx14_0, hf14_0⟩ := Kd.R_celln 0 HO_3.out ((ji11) : Int) p14 q14; replace p14 := eq_true p14; replace q14 := eq_true q14; obtain ⟨hy17_, hz17_⟩ := Kd.R_celln 0 HO_3.out ((ji11) : Int) (of_decide_eq_true (by first | (with_reducible assumption) | assumption)) (of_decide_eq_true (by first | (with_reducible assumption) | assumption)); have HP17 := Kd.R_putg HO_3.out ((ji11) : Int) x9_1) | ((with_reducible refine gate_store (t := 3) (p := 23) rfl ?_); refine store_event (t := 3) (p := 23) (v := ?vo_w18) (w1 := (w16.setCell ⟨go10, ((ji11) : Int).toNat, none⟩ (.int .i64 x9_1))) ?hg ?ho ?hn ?hr ?_; (case ho => rfl); (case hg => rfl); (case hn => rfl); (case hr => first | (go_simp; done) | (go_simp; rfl)); intro w18 hw; have hg : w16.grownBy w18 (some go10) := (by rw [hw]; exact HP17.2); have hp_ : Kd.R (Kd.int .i64) 3 w18 w.heap.size (fun _ => True) (.slice (some ⟨go10, 0, none⟩) x3_1.length co10) y150 := (by rw [hw, Ny150.out]; exact HP17.1); clear HP17; have n0_ := Aside0.mk (hp_); have n1_ := Aside0.mk ((by rw [hw]; exact below_set (HB.out) GB10.out : Below w.heap.size w w18)); clear HO_3; clear HB; have HO_3 := n0_; have HB := n1_; clear n0_ n1_; clear hg hw hp_))
          go_roundg k1
          case measure => have := HK1.out; omega
          case rel => exact ⟨(y150), (wrap64 (x9_1 + 1)), (by first | rfl | (simp; done) | (simp [*]; done)), H', ⟨by have := HK1.out; omega⟩, ⟨by (with_reducible repeat (first | apply Kd.R_alloc | apply Kd.R_drewN | apply Kd.R_drew)); exact HO_3.out⟩, ⟨by repeat (first | (with_reducible first | exact HB.out | apply below_alloc | apply pw_below_drewN | apply below_drew1) | exact HB.out)⟩⟩
         ·rw [if_neg c13] at H
          exact absurd H (by simp)
        ·rw [if_neg c12] at H
         exact absurd H (by simp)
       ·rw [if_neg c9] at H
        exact absurd H (by simp)
      ·rw [if_neg c8] at H
       exact absurd H (by simp)
     ·rw [if_neg c7] at H
      have c7b0 : decide (x9_1 < a0) = false := decide_eq_false c7
      clear c7
      obtain rfl := Option.some.inj H
      go_wp2
      go_ret
      exact ⟨_, by first | rfl | (simp [errW_none, errW_some] <;> rfl) | (simp only [← hji2]; first | rfl | (simp [errW_none, errW_some] <;> rfl)) | (simp [*, errW_none, errW_some] <;> rfl), by (with_reducible repeat (first | apply Kd.R_alloc | apply Kd.R_drewN | apply Kd.R_drew)); exact HO_3.out, by repeat (first | (with_reducible first | exact HB.out | apply below_alloc | apply pw_below_drewN | apply below_drew1) | exact HB.out)⟩
  ·rw [if_neg c4] at H
   exact absurd H (by simp)
 ·rw [if_neg c3] at H
  exact absurd H (by simp)
/-! ### plait_hook: function 77 -/
def plait_hook.f (k : Nat) (a0 : Int) (a1 : Int) : Option (List Int) := (plait_identity.f k a0).bind fun t151 => (if 0 ≤ a1 then (if a1 < (t151.length : Int) then (if 0 ≤ (wrap64 (a1 + 1)) then (if (wrap64 (a1 + 1)) < (t151.length : Int) then (if 0 ≤ (wrap64 (a0 + a1)) then (if (wrap64 (a0 + a1)) < (t151.length : Int) then (if 0 ≤ (wrap64 ((wrap64 (a0 + a1)) + 1)) then (if (wrap64 ((wrap64 (a0 + a1)) + 1)) < (t151.length : Int) then (some ((((t151.set (a1 : Int).toNat (wrap64 (a1 + 1))).set ((wrap64 (a1 + 1)) : Int).toNat a1).set ((wrap64 (a0 + a1)) : Int).toNat (wrap64 ((wrap64 (a0 + a1)) + 1))).set ((wrap64 ((wrap64 (a0 + a1)) + 1)) : Int).toNat (wrap64 (a0 + a1)))) else (none)) else (none)) else (none)) else (none)) else (none)) else (none)) else (none)) else (none))
theorem plait_hook.mono : ∀ a0 a1 k, LeO (plait_hook.f k a0 a1) (plait_hook.f (k + 1) a0 a1) := by
 intro a0 a1 k
 unfold plait_hook.f
 repeat' first
   | (with_reducible exact plait_identity.mono _ _)
   | (with_reducible exact LeO.refl _)
   | (with_reducible exact LeO.none _)
   | (with_reducible refine LeO.ite ?_ ?_)
   | (with_reducible refine LeO.bind ?_ (fun _ => ?_))
   | exact plait_identity.mono _ _
   | exact LeO.none _
   | refine LeO.ite ?_ ?_
   | refine LeO.bind ?_ (fun _ => ?_)
set_option maxHeartbeats 8000000 in
set_option maxRecDepth 100000 in
theorem plait_hook.calls (k : Nat) (a0 : Int) (a1 : Int) (r : List Int) (w : World) (h : plait_hook.f k a0 a1 = some r) :
  Calls Try.prog 77 #[.int .i64 a0, .int .i64 a1] w fun e w' => ∃ v0_ : Value, e = .returned (v0_) ∧ Kd.R (Kd.int .i64) 3 w' w.heap.size (fun _ => True) v0_ r ∧ Below w.heap.size w w' := by
 have HB := Aside0.mk (Below.refl w.heap.size w)
 have H : ((plait_identity.f k a0).bind fun t151 => (if 0 ≤ a1 then (if a1 < (t151.length : Int) then (if 0 ≤ (wrap64 (a1 + 1)) then (if (wrap64 (a1 + 1)) < (t151.length : Int) then (if 0 ≤ (wrap64 (a0 + a1)) then (if (wrap64 (a0 + a1)) < (t151.length : Int) then (if 0 ≤ (wrap64 ((wrap64 (a0 + a1)) + 1)) then (if (wrap64 ((wrap64 (a0 + a1)) + 1)) < (t151.length : Int) then (some ((((t151.set (a1 : Int).toNat (wrap64 (a1 + 1))).set ((wrap64 (a1 + 1)) : Int).toNat a1).set ((wrap64 (a0 + a1)) : Int).toNat (wrap64 ((wrap64 (a0 + a1)) + 1))).set ((wrap64 ((wrap64 (a0 + a1)) + 1)) : Int).toNat (wrap64 (a0 + a1)))) else (none)) else (none)) else (none)) else (none)) else (none)) else (none)) else (none)) else (none))) = some r := h
 clear h
 replace H := Option.bind_eq_some_iff.mp H
 obtain ⟨t151, A30, H⟩ := H
 replace H : (if 0 ≤ a1 then (if a1 < (t151.length : Int) then (if 0 ≤ (wrap64 (a1 + 1)) then (if (wrap64 (a1 + 1)) < (t151.length : Int) then (if 0 ≤ (wrap64 (a0 + a1)) then (if (wrap64 (a0 + a1)) < (t151.length : Int) then (if 0 ≤ (wrap64 ((wrap64 (a0 + a1)) + 1)) then (if (wrap64 ((wrap64 (a0 + a1)) + 1)) < (t151.length : Int) then (some ((((t151.set (a1 : Int).toNat (wrap64 (a1 + 1))).set ((wrap64 (a1 + 1)) : Int).toNat a1).set ((wrap64 (a0 + a1)) : Int).toNat (wrap64 ((wrap64 (a0 + a1)) + 1))).set ((wrap64 ((wrap64 (a0 + a1)) + 1)) : Int).toNat (wrap64 (a0 + a1)))) else (none)) else (none)) else (none)) else (none)) else (none)) else (none)) else (none)) else (none)) = some r := H
 have A3 := Aside0.mk A30
 clear A30
 by_cases c4 : 0 ≤ a1
 ·rw [if_pos c4] at H
  have c4b0 : decide (0 ≤ a1) = true := decide_eq_true c4
  clear c4
  by_cases c5 : a1 < (t151.length : Int)
  ·rw [if_pos c5] at H
   have c5b0 : decide (a1 < (t151.length : Int)) = true := decide_eq_true c5
   clear c5
   obtain ⟨y154, hy154⟩ : ∃ y_ : List Int, y_ = (t151.set (a1 : Int).toNat (wrap64 (a1 + 1))) := ⟨_, rfl⟩
   replace H : (if 0 ≤ (wrap64 (a1 + 1)) then (if (wrap64 (a1 + 1)) < (t151.length : Int) then (if 0 ≤ (wrap64 (a0 + a1)) then (if (wrap64 (a0 + a1)) < (t151.length : Int) then (if 0 ≤ (wrap64 ((wrap64 (a0 + a1)) + 1)) then (if (wrap64 ((wrap64 (a0 + a1)) + 1)) < (t151.length : Int) then (some (((y154.set ((wrap64 (a1 + 1)) : Int).toNat a1).set ((wrap64 (a0 + a1)) : Int).toNat (wrap64 ((wrap64 (a0 + a1)) + 1))).set ((wrap64 ((wrap64 (a0 + a1)) + 1)) : Int).toNat (wrap64 (a0 + a1)))) else (none)) else (none)) else (none)) else (none)) else (none)) else (none)) = some r := by first | (rw [hy154]; with_reducible exact H) | (have H2_ := (Option.bind_some _ _).symm.trans H; rw [hy154]; with_reducible exact H2_) | (have H2_ := (Option.bind_some _ _).symm.trans H; with_reducible exact H2_) | with_reducible exact H | (rw [hy154]; exact H) | exact H
   have Ny154 := Aside0.mk hy154
   clear hy154
   obtain ⟨ji7, hji7⟩ : ∃ j_ : Int, (wrap64 (a1 + 1)) = j_ := ⟨_, rfl⟩
   replace H : (if 0 ≤ (ji7) then (if (ji7) < (t151.length : Int) then (if 0 ≤ (wrap64 (a0 + a1)) then (if (wrap64 (a0 + a1)) < (t151.length : Int) then (if 0 ≤ (wrap64 ((wrap64 (a0 + a1)) + 1)) then (if (wrap64 ((wrap64 (a0 + a1)) + 1)) < (t151.length : Int) then (some (((y154.set ((ji7) : Int).toNat a1).set ((wrap64 (a0 + a1)) : Int).toNat (wrap64 ((wrap64 (a0 + a1)) + 1))).set ((wrap64 ((wrap64 (a0 + a1)) + 1)) : Int).toNat (wrap64 (a0 + a1)))) else (none)) else (none)) else (none)) else (none)) else (none)) else (none)) = some r := by first | (rw [hji7] at H; exact H) | (simp only [hji7] at H ⊢; exact H)
   (try rw [hji7] at A3)
   (try rw [hji7] at Ny154)
   have hji7w : (IntKind.i64.wrap (a1 + 1)) = ji7 := (i64_w _).trans hji7
   by_cases c8 : 0 ≤ (ji7)
   ·rw [if_pos c8] at H
    have c8b0 : decide (0 ≤ (ji7)) = true := decide_eq_true c8
    clear c8
    by_cases c9 : (ji7) < (t151.length : Int)
    ·rw [if_pos c9] at H
     have c9b0 : decide ((ji7) < (t151.length : Int)) = true := decide_eq_true c9
     clear c9
     obtain ⟨y155, hy155⟩ : ∃ y_ : List Int, y_ = (y154.set ((ji7) : Int).toNat a1) := ⟨_, rfl⟩
     replace H : (if 0 ≤ (wrap64 (a0 + a1)) then (if (wrap64 (a0 + a1)) < (t151.length : Int) then (if 0 ≤ (wrap64 ((wrap64 (a0 + a1)) + 1)) then (if (wrap64 ((wrap64 (a0 + a1)) + 1)) < (t151.length : Int) then (some ((y155.set ((wrap64 (a0 + a1)) : Int).toNat (wrap64 ((wrap64 (a0 + a1)) + 1))).set ((wrap64 ((wrap64 (a0 + a1)) + 1)) : Int).toNat (wrap64 (a0 + a1)))) else (none)) else (none)) else (none)) else (none)) = some r := by first | (rw [hy155]; with_reducible exact H) | (have H2_ := (Option.bind_some _ _).symm.trans H; rw [hy155]; with_reducible exact H2_) | (have H2_ := (Option.bind_some _ _).symm.trans H; with_reducible exact H2_) | with_reducible exact H | (rw [hy155]; exact H) | exact H
     have Ny155 := Aside0.mk hy155
     clear hy155
     obtain ⟨ji11, hji11⟩ : ∃ j_ : Int, (wrap64 (a0 + a1)) = j_ := ⟨_, rfl⟩
     replace H : (if 0 ≤ (ji11) then (if (ji11) < (t151.length : Int) then (if 0 ≤ (wrap64 ((ji11) + 1)) then (if (wrap64 ((ji11) + 1)) < (t151.length : Int) then (some ((y155.set ((ji11) : Int).toNat (wrap64 ((ji11) + 1))).set ((wrap64 ((ji11) + 1)) : Int).toNat (ji11))) else (none)) else (none)) else (none)) else (none)) = some r := by first | (rw [hji11] at H; exact H) | (simp only [hji11] at H ⊢; exact H)
     (try rw [hji11] at A3)
     have hji11w : (IntKind.i64.wrap (a0 + a1)) = ji11 := (i64_w _).trans hji11
     by_cases c12 : 0 ≤ (ji11)
     ·rw [if_pos c12] at H
      have c12b0 : decide (0 ≤ (ji11)) = true := decide_eq_true c12
      clear c12
      by_cases c13 : (ji11) < (t151.length : Int)
      ·rw [if_pos c13] at H
       have c13b0 : decide ((ji11) < (t151.length : Int)) = true := decide_eq_true c13
       clear c13
       obtain ⟨y156, hy156⟩ : ∃ y_ : List Int, y_ = (y155.set ((ji11) : Int).toNat (wrap64 ((ji11) + 1))) := ⟨_, rfl⟩
       replace H : (if 0 ≤ (wrap64 ((ji11) + 1)) then (if (wrap64 ((ji11) + 1)) < (t151.length : Int) then (some (y156.set ((wrap64 ((ji11) + 1)) : Int).toNat (ji11))) else (none)) else (none)) = some r := by first | (rw [hy156]; with_reducible exact H) | (have H2_ := (Option.bind_some _ _).symm.trans H; rw [hy156]; with_reducible exact H2_) | (have H2_ := (Option.bind_some _ _).symm.trans H; with_reducible exact H2_) | with_reducible exact H | (rw [hy156]; exact H) | exact H
       have Ny156 := Aside0.mk hy156
       clear hy156
       obtain ⟨ji15, hji15⟩ : ∃ j_ : Int, (wrap64 ((ji11) + 1)) = j_ := ⟨_, rfl⟩
       replace H : (if 0 ≤ (ji15) then (if (ji15) < (t151.length : Int) then (some (y156.set ((ji15) : Int).toNat (ji11))) else (none)) else (none)) = some r := by first | (rw [hji15] at H; exact H) | (simp only [hji15] at H ⊢; exact H)
       (try rw [hji15] at A3)
       (try rw [hji15] at Ny156)
       have hji15w : (IntKind.i64.wrap ((ji11) + 1)) = ji15 := (i64_w _).trans hji15
       by_cases c16 : 0 ≤ (ji15)
       ·rw [if_pos c16] at H
        have c16b0 : decide (0 ≤ (ji15)) = true := decide_eq_true c16
        clear c16
        by_cases c17 : (ji15) < (t151.length : Int)
        ·rw [if_pos c17] at H
         have c17b0 : decide ((ji15) < (t151.length : Int)) = true := decide_eq_true c17
         clear c17
         obtain ⟨y157, hy157⟩ : ∃ y_ : List Int, y_ = (y156.set ((ji15) : Int).toNat (ji11)) := ⟨_, rfl⟩
         replace H : (some y157) = some r := by first | (rw [hy157]; with_reducible exact H) | (have H2_ := (Option.bind_some _ _).symm.trans H; rw [hy157]; with_reducible exact H2_) | (have H2_ := (Option.bind_some _ _).symm.trans H; with_reducible exact H2_) | with_reducible exact H | (rw [hy157]; exact H) | exact H
         have Ny157 := Aside0.mk hy157
         clear hy157
         obtain rfl := Option.some.inj H
         go_enter Try.func77, Try.ntmps77
         go_wp2_with (first | ((with_reducible refine gate_callee (f := 76) rfl ?_); refine goesL_ (some 7) rfl rfl Try.func76 (by kernel_rfl) rfl #[.int .i64 a0] rfl (by (try simp only [List.map_toArray, List.map_cons, List.map_nil]); first | done | rfl | (simp only [List.length_drop, List.length_take]; rfl)) ?_; (with_reducible refine (plait_identity.calls k a0 t151 _ A3.out).mono ?_); rintro e w19 ⟨v152, rfl, ho0, hb⟩; refine ⟨_, rfl, ?_⟩; have n0_ := Aside0.mk (Kd.R_lower ho0 (below_size (by repeat (first | (with_reducible first | exact HB.out | apply below_alloc | apply pw_below_drewN | apply below_drew1) | exact HB.out)))); have n1_ := Aside0.mk (below_step (by repeat (first | (with_reducible first | exact HB.out | apply below_alloc | apply pw_below_drewN | apply below_drew1) | exact HB.out)) hb); clear HB; have HO153 := n0_; have HB := n1_; clear n0_ n1_; (try clear hb); (try clear hb2); (try clear hk); (try clear hi); (try clear ho0); have p6 : 0 ≤ (a1 : Int) := of_decide_eq_true (by first | (with_reducible assumption) | assumption); have q6 : (a1 : Int) < ((t151.length : Int) : Int) := of_decide_eq_true (by first | (with_reducible assumption) | assumption); obtain ⟨go6, co6, eo6, gb6, gl6, cl6, HG6⟩ := Kd.R_form HO153.out (by omega); (first | cases eo6 | (injection eo6 with ea_ en_ ec_; (first | subst ea_ | (injection ea_ with ea_; subst ea_)); subst ec_; clear en_)); have GB6 := Aside0.mk gb6; have GG6 := Aside0.mk HG6; clear gb6 gl6 HG6; obtain ⟨hx6_0, hf6_0⟩ := Kd.R_celln 0 HO153.out (a1 : Int) p6 q6; replace p6 := eq_true p6; replace q6 := eq_true q6; obtain ⟨hy20_, hz20_⟩ := Kd.R_celln 0 HO153.out (a1 : Int) (of_decide_eq_true (by first | (with_reducible assumption) | assumption)) (of_decide_eq_true (by first | (with_reducible assumption) | assumption)); have HP20 := Kd.R_putg HO153.out (a1 : Int) ji7) | ((with_reducible refine gate_store (t := 3) (p := 16) rfl ?_); refine store_event (t := 3) (p := 16) (v := ?vo_w21) (w1 := (w19.setCell ⟨go6, (a1 : Int).toNat, none⟩ (.int .i64 ji7))) ?hg ?ho ?hn ?hr ?_; (case ho => rfl); (case hg => rfl); (case hn => rfl); (case hr => first | (go_simp; done) | (go_simp; rfl)); intro w21 hw; have hg : w19.grownBy w21 (some go6) := (by rw [hw]; exact HP20.2); have hp_ : Kd.R (Kd.int .i64) 3 w21 w.heap.size (fun _ => True) (.slice (some ⟨go6, 0, none⟩) t151.length co6) y154 := (by rw [hw, Ny154.out]; exact HP20.1); clear HP20; have n0_ := Aside0.mk (hp_); have n1_ := Aside0.mk ((by rw [hw]; exact below_set (HB.out) GB6.out : Below w.heap.size w w21)); clear HO153; clear HB; have HO153 := n0_; have HB := n1_; clear n0_ n1_; clear hg hw hp_; have p10 : 0 ≤ ((ji7) : Int) := of_decide_eq_true (by first | (with_reducible assumption) | assumption); have q10 : ((ji7) : Int) < ((t151.length : Int) : Int) := of_decide_eq_true (by first | (with_reducible assumption) | assumption); obtain ⟨hx10_0, hf10_0⟩ := Kd.R_celln 0 HO153.out ((ji7) : Int) p10 q10; replace p10 := eq_true p10; replace q10 := eq_true q10; obtain ⟨hy22_, hz22_⟩ := Kd.R_celln 0 HO153.out ((ji7) : Int) (of_decide_eq_true (by first | (with_reducible assumption) | assumption)) (of_decide_eq_true (by first | (with_reducible assumption) | assumption)); have HP22 := Kd.R_putg HO153.out ((ji7) : Int) a1) | ((with_reducible refine gate_store (t := 3) (p := 17) rfl ?_); refine store_event (t := 3) (p := 17) (v := ?vo_w23) (w1 := (w21.setCell ⟨go6, ((ji7) : Int).toNat, none⟩ (.int .i64 a1))) ?hg ?ho ?hn ?hr ?_; (case ho => rfl); (case hg => rfl); (case hn => rfl); (case hr => first | (go_simp; done) | (go_simp; rfl)); intro w23 hw; have hg : w21.grownBy w23 (some go6) := (by rw [hw]; exact HP22.2); have hp_ : Kd.R (Kd.int .i64) 3 w23 w.heap.size (fun _ => True) (.slice (some ⟨go6, 0, none⟩) t151.length co6) y155 := (by rw [hw, Ny155.out]; exact HP22.1); clear HP22; have n0_ := Aside0.mk (hp_); have n1_ := Aside0.mk ((by rw [hw]; exact below_set (HB.out) GB6.out : Below w.heap.size w w23)); clear HO153; clear HB; have HO153 := n0_; have HB := n1_; clear n0_ n1_; clear hg hw hp_; have p14 : 0 ≤ ((ji11) : Int) := of_decide_eq_true (by first | (with_reducible assumption) | assumption); have q14 : ((ji11) : Int) < ((t151.length : Int) : Int) := of_decide_eq_true (by first | (with_reducible assumption) | assumption); obtain ⟨hx14_0, hf14_0⟩ := Kd.R_celln 0 HO153.out ((ji11) : Int) p14 q14; replace p14 := eq_true p14; replace q14 := eq_true q14; obtain ⟨hy24_, hz24_⟩ := Kd.R_celln 0 HO153.out ((ji11) : Int) (of_decide_eq_true (by first | (with_reducible assumption) | assumption)) (of_decide_eq_true (by first | (with_reducible assumption) | assumption)); have HP24 := Kd.R_putg HO153.out ((ji11) : Int) ji15) | ((with_reducible refine gate_store (t := 3) (p := 34) rfl ?_); refine store_event (t := 3) (p := 34) (v := ?vo_w25) (w1 := (w23.setCell ⟨go6, ((ji11) : Int).toNat, none⟩ (.int .i64 ji15))) ?hg ?ho ?hn ?hr ?_; (case ho => rfl); (case hg => rfl); (case hn => rfl); (case hr => first | (go_simp; done) | (go_simp; rfl)); intro w25 hw; have hg : w23.grownBy w25 (some go6) := (by rw [hw]; exact HP24.2); have hp_ : Kd.R (Kd.int .i64) 3 w25 w.heap.size (fun _ => True) (.slice (some ⟨go6, 0, none⟩) t151.length co6) y156 := (by rw [hw, Ny156.out]; exact HP24.1); clear HP24; have n0_ := Aside0.mk (hp_); have n1_ := Aside0.mk ((by rw [hw]; exact below_set (HB.out) GB6.out : Below w.heap.size w w25)); clear HO153; clear HB; have HO153 := n0_; have HB := n1_; clear n0_ n1_; clear hg hw hp_; have p18 : 0 ≤ ((ji15) : Int) := of_decide_eq_true (by first | (with_reducible assumption) | assumption); have q18 : ((ji15) : Int) < ((t151.length : Int) : Int) := of_decide_eq_true (by first | (with_reducible assumption) | assumption); obtain ⟨hx18_0, hf18_0⟩ := Kd.R_celln 0 HO153.out ((ji15) : Int) p18 q18; replace p18 := eq_true p18; replace q18 := eq_true q18; obtain ⟨hy26_, hz26_⟩ := Kd.R_celln 0 HO153.out ((ji15) : Int) (of_decide_eq_true (by first | (with_reducible assumption) | assumption)) (of_decide_eq_true (by first | (with_reducible assumption) | assumption)); have HP26 := Kd.R_putg HO153.out ((ji15) : Int) ji11) | ((with_reducible refine gate_store (t := 3) (p := 35) rfl ?_); refine store_event (t := 3) (p := 35) (v := ?vo_w27) (w1 := (w25.setCell ⟨go6, ((ji15) : Int).toNat, none⟩ (.int .i64 ji11))) ?hg ?ho ?hn ?hr ?_; (case ho => rfl); (case hg => rfl); (case hn => rfl); (case hr => first | (go_simp; done) | (go_simp; rfl)); intro w27 hw; have hg : w25.grownBy w27 (some go6) := (by rw [hw]; exact HP26.2); have hp_ : Kd.R (Kd.int .i64) 3 w27 w.heap.size (fun _ => True) (.slice (some ⟨go6, 0, none⟩) t151.length co6) y157 := (by rw [hw, Ny157.out]; exact HP26.1); clear HP26; have n0_ := Aside0.mk (hp_); have n1_ := Aside0.mk ((by rw [hw]; exact below_set (HB.out) GB6.out : Below w.heap.size w w27)); clear HO153; clear HB; have HO153 := n0_; have HB := n1_; clear n0_ n1_; clear hg hw hp_))
         go_ret
         exact ⟨_, by first | rfl | (simp [errW_none, errW_some] <;> rfl) | (simp only [← hji7, ← hji11, ← hji15]; first | rfl | (simp [errW_none, errW_some] <;> rfl)) | (simp [*, errW_none, errW_some] <;> rfl), by (with_reducible repeat (first | apply Kd.R_alloc | apply Kd.R_drewN | apply Kd.R_drew)); exact HO153.out, by repeat (first | (with_reducible first | exact HB.out | apply below_alloc | apply pw_below_drewN | apply below_drew1) | exact HB.out)⟩
        ·rw [if_neg c17] at H
         exact absurd H (by simp)
       ·rw [if_neg c16] at H
        exact absurd H (by simp)
      ·rw [if_neg c13] at H
       exact absurd H (by simp)
     ·rw [if_neg c12] at H
      exact absurd H (by simp)
    ·rw [if_neg c9] at H
     exact absurd H (by simp)
   ·rw [if_neg c8] at H
    exact absurd H (by simp)
  ·rw [if_neg c5] at H
   exact absurd H (by simp)
 ·rw [if_neg c4] at H
  exact absurd H (by simp)
/-! ### plait_diagram_int_89: function 89 -/
def plait_diagram_int_89.f (l0 : List Int) : Option (List Int) := (some (([] : List Int) : List Int)).bind fun y158 => (if y158.length + l0.length < 17592186044416 then (some (y158 ++ l0)) else (none))
set_option maxHeartbeats 8000000 in
set_option maxRecDepth 100000 in
theorem plait_diagram_int_89.calls (A0 : Option Addr) (c0 : Nat) (l0 : List Int) (r : List Int) (w : World) (hr0 : Kd.C (Kd.int .i64) w A0 l0.length l0) (hc0 : l0.length ≤ c0) (hne : A0.isNone = false) (h : plait_diagram_int_89.f l0 = some r) :
  Calls Try.prog 89 #[.slice A0 l0.length c0] w fun e w' => ∃ v0_ : Value, e = .returned (v0_) ∧ Kd.R (Kd.int .i64) 3 w' w.heap.size (fun _ => True) v0_ r ∧ Below w.heap.size w w' := by
 have HR0 := Aside0.mk hr0
 have HC0 := Aside0.mk hc0
 clear hr0 hc0
 have HB := Aside0.mk (Below.refl w.heap.size w)
 have H : ((some (([] : List Int) : List Int)).bind fun y158 => (if y158.length + l0.length < 17592186044416 then (some (y158 ++ l0)) else (none))) = some r := h
 clear h
 have hnil := fun (W : World) => Lib.run_eql_slice_nil (P := Try.prog) W 65 3 A0 l0.length c0 0 0 Try.underlying65
 simp only [hne] at hnil
 obtain ⟨y158, hy158⟩ : ∃ y_ : List Int, y_ = (([] : List Int)) := ⟨_, rfl⟩
 replace H : (if y158.length + l0.length < 17592186044416 then (some (y158 ++ l0)) else (none)) = some r := by first | (rw [hy158]; with_reducible exact H) | (have H2_ := (Option.bind_some _ _).symm.trans H; rw [hy158]; with_reducible exact H2_) | (have H2_ := (Option.bind_some _ _).symm.trans H; with_reducible exact H2_) | with_reducible exact H | (rw [hy158]; exact H) | exact H
 have Ny158 := Aside0.mk hy158
 clear hy158
 by_cases c2 : y158.length + l0.length < 17592186044416
 ·rw [if_pos c2] at H
  have LMc2 := Aside0.mk c2
  clear c2
  obtain ⟨y161, hy161⟩ : ∃ y_ : List Int, y_ = (y158 ++ l0) := ⟨_, rfl⟩
  replace H : (some y161) = some r := by first | (rw [hy161]; with_reducible exact H) | (have H2_ := (Option.bind_some _ _).symm.trans H; rw [hy161]; with_reducible exact H2_) | (have H2_ := (Option.bind_some _ _).symm.trans H; with_reducible exact H2_) | with_reducible exact H | (rw [hy161]; exact H) | exact H
  have Ny161 := Aside0.mk hy161
  clear hy161
  obtain rfl := Option.some.inj H
  go_enter Try.func89, Try.ntmps89
  go_wp2_with (first | ((with_reducible refine gate_dst (N := 5) rfl ?_); refine Kd.R_lit (Kd.int .i64) _ 3 ?hg (N := 5) ?hd (xs := ([] : List Int)) (inner := []) (ok := fun _ => True) (okp := fun _ => True) ?hr ?hp (fun _ hk => hk) trivial (Below.refl _ _) (Nat.le_refl _) (by simp) ?_; (case hd => rfl); (case hg => rfl); (case hr => first | (go_simp; done) | (go_simp; rfl)); (case hp => exact (Reps.none _ _)); intro v159 w3 ho4 hb hg_ hnew_; clear hg_ hnew_; (first | rw [← Ny158.out] at ho4 | (simp only [Int.reduceToNat] at ho4; rw [← Ny158.out] at ho4)); have n0_ := Aside0.mk (Kd.R_lower ho4 (below_size (by repeat (first | (with_reducible first | exact HB.out | apply below_alloc | apply pw_below_drewN | apply below_drew1) | exact HB.out)))); have n1_ := Aside0.mk (below_step (by repeat (first | (with_reducible first | exact HB.out | apply below_alloc | apply pw_below_drewN | apply below_drew1) | exact HB.out)) hb); clear HB; have HO160 := n0_; have HB := n1_; clear n0_ n1_; clear hb ho4) | ((with_reducible refine gate_builtin (b := .append) (xs := #[.tmp 5, .tmp 6]) rfl ?_); at_builtin; refine Kd.R_append_rows (Kd.int .i64) (w0 := w) w.heap.size rfl (.tmp 5) (.tmp 6) 65 3 (.int .i64 0) 8 rfl Try.underlying65 info3 rfl (by decide) (by omega) v159 y158 l0 _ _ _ (fun _ => True) (fun _ => False) rfl rfl ?aO ?aR (fun _ _ h => h) (fun _ h => h.elim) ?aF ?aB ?aS ?aL ?_; (case aR => repeat (first | exact (Kd.C_below HR0.out HB.out) | (with_reducible refine Kd.C_alloc ?_ _) | (with_reducible refine Kd.C_drewN ?_ _) | (with_reducible refine Kd.C_drew ?_))); (case aB => exact (by repeat (first | (with_reducible first | exact HB.out | apply below_alloc | apply pw_below_drewN | apply below_drew1) | exact HB.out))); (case aF => exact (fun _ _ => trivial)); (case aO => exact (by (with_reducible repeat (first | apply Kd.R_alloc | apply Kd.R_drewN | apply Kd.R_drew)); exact HO160.out)); (case aS => exact (below_size (by repeat (first | (with_reducible first | exact HB.out | apply below_alloc | apply pw_below_drewN | apply below_drew1) | exact HB.out)))); (case aL => have := LMc2.out; omega); intro v162 w5 ho hb hg hat; rw [← Ny161.out] at ho; have n0_ := Aside0.mk (hb); have n1_ := Aside0.mk (ho); clear HB; clear HO160; have HB := n0_; have HO163 := n1_; clear n0_ n1_; clear ho hb hg hat))
  go_ret
  exact ⟨_, by first | rfl | (simp [errW_none, errW_some] <;> rfl) | (simp [*, errW_none, errW_some] <;> rfl), by (with_reducible repeat (first | apply Kd.R_alloc | apply Kd.R_drewN | apply Kd.R_drew)); exact HO163.out, by repeat (first | (with_reducible first | exact HB.out | apply below_alloc | apply pw_below_drewN | apply below_drew1) | exact HB.out)⟩
 ·rw [if_neg c2] at H
  exact absurd H (by simp)
end Go.Proofs.Ytjfkompfkgjdaaa.PC
end
section
/- The product of two diagrams, as the program makes it: plain. -/
namespace Go.Proofs.Ytjfkompfkgjdaaa.PC
open Go.RowKit Go.Proofs.YtjfkompfkgjdaaaW.PrintWords Go.Proofs.YtjfkompfkgjdaaaW.PrintLast Go.Proofs.YtjfkompfkgjdaaaW.PrintMore
/-- the way through the strands from a point to an outer point; a middle point is seen once on its way -/
def plait_way (d o : List Int) (n : Nat) : Nat → Bool → Int → List Bool → Option (Int × List Bool)
  | 0, _, _, _ => none
  | k + 1, up, p, T =>
    if 0 ≤ p ∧ p < (d.length : Int) then
      (if up = decide ((if up = true then rd d p else rd o p) < (n : Int)) then some (if up = true then rd d p else rd o p, T)
       else if 0 ≤ (if up = true then rd d p else rd o p) ∧ 0 < n then
         plait_way d o n k (!up) (if up = true then (if up = true then rd d p else rd o p) % (n : Int) else (if up = true then rd d p else rd o p) % (n : Int) + (n : Int)) (T.set ((if up = true then rd d p else rd o p) % (n : Int)).toNat true)
       else none)
    else none
def plait_ways (d o : List Int) (n : Nat) : Nat → Nat → List Int → List Bool → Option (List Int × List Bool)
  | 0, _, out, T => some (out, T)
  | k + 1, i, out, T => (plait_way d o n (2 * n + 2) true (i : Int) T).bind fun a => (plait_way d o n (2 * n + 2) false (((n + i : Nat)) : Int) a.2).bind fun b => plait_ways d o n k (i + 1) ((out.set i a.1).set (n + i) b.1) b.2
/-- once around a loop in the middle -/
def plait_round (d o : List Int) (n : Nat) : Nat → Int → List Bool → Option (List Bool)
  | 0, _, _ => none
  | k + 1, at_, T =>
    if 0 ≤ at_ ∧ at_ < (n : Int) then
      (if T.getD at_.toNat false = true then some T
       else if 0 ≤ rd o at_ ∧ rd o at_ < (n : Int) then plait_round d o n k (wrap64 (rd d (rd o at_ + (n : Int)) - (n : Int))) ((T.set at_.toNat true).set (rd o at_).toNat true)
       else none)
    else none
def plait_loops (d o : List Int) (n : Nat) : Nat → Nat → Nat → List Bool → Option Nat
  | 0, _, many, _ => some many
  | k + 1, i, many, T => if T.getD i false = true then plait_loops d o n k (i + 1) many T else (plait_round d o n (n + 1) (i : Int) T).bind fun T' => plait_loops d o n k (i + 1) (many + 1) T'
end Go.Proofs.Ytjfkompfkgjdaaa.PC
end
section
/- The closure of the product: from a point along the strands to an outer point. -/
namespace Go.Proofs.Ytjfkompfkgjdaaa.PC
open Go.RowKit Go.Proofs.YtjfkompfkgjdaaaW.PrintWords Go.Proofs.YtjfkompfkgjdaaaW.PrintLast Go.Proofs.YtjfkompfkgjdaaaW.PrintMore
theorem heap_set {w : World} {p i : Nat} {cs : Array Value} {t : TypeId} {fr : Nat × Nat} (h : w.heap[p]? = some (.cells cs t fr)) (v : Value) : (w.setCell ⟨p, i, none⟩ v).heap[p]? = some (.cells (cs.setIfInBounds i v) t fr) := by
  show (w.heap.modify p _)[p]? = _
  rw [Array.getElem?_modify, if_pos rfl, h]
  rfl
theorem ne_type {w : World} {p q : Nat} {a b : Array Value} {s t : TypeId} {f g : Nat × Nat} (h : w.heap[p]? = some (.cells a s f)) (k : w.heap[q]? = some (.cells b t g)) (hst : s ≠ t) : p ≠ q := by
  rintro rfl
  rw [h] at k
  injection k with k
  injection k with _ k
  exact hst k
/-- only block S is another one -/
structure Only (S : Nat) (w w' : World) : Prop where
  os : w'.os = w.os
  tape : w'.tape = w.tape
  output : w'.output = w.output
  size : w'.heap.size = w.heap.size
  block : ∀ k, k ≠ S → w'.heap[k]? = w.heap[k]?
theorem Only.refl (S : Nat) (w : World) : Only S w w := ⟨rfl, rfl, rfl, rfl, fun _ _ => rfl⟩
theorem Only.trans {S : Nat} {a b c : World} (h : Only S a b) (k : Only S b c) : Only S a c := ⟨k.os.trans h.os, k.tape.trans h.tape, k.output.trans h.output, k.size.trans h.size, fun i hi => (k.block i hi).trans (h.block i hi)⟩
theorem Only.set (w : World) (S i : Nat) (v : Value) : Only S w (w.setCell ⟨S, i, none⟩ v) := ⟨rfl, rfl, rfl, by simp [World.setCell], fun k hk => Below.heap_setCell w _ _ k hk⟩
theorem Only.below {S B : Nat} {w w' : World} (h : Only S w w') (hB : B ≤ S) : Below B w w' := ⟨h.os, h.tape, h.output, by rw [h.size]; exact Nat.le_refl _, fun k hk => h.block k (by omega)⟩
/-- the variables of the product: both diagrams, the size, and what has been seen -/
structure PQ (Bd Bo Bn Bs S : Nat) (sd so : Value) (n : Nat) (T : List Bool) (W : World) : Prop where
  fd : W.heap[Bd]? = some (.cells #[sd] 65 (0, 0))
  fo : W.heap[Bo]? = some (.cells #[so] 65 (0, 0))
  fn : W.heap[Bn]? = some (.cells #[.int .i64 (n : Int)] 3 (0, 0))
  fs : W.heap[Bs]? = some (.cells #[.slice (some ⟨S, 0, none⟩) n n] 69 (0, 0))
  row : W.heap[S]? = some (.cells (T.map Value.bool).toArray 4 (0, 0))
  len : T.length = n
theorem cell_one {w : World} {B : Nat} {v : Value} {t : TypeId} {fr : Nat × Nat} (h : w.heap[B]? = some (.cells #[v] t fr)) : w.cell? ⟨B, 0, none⟩ = some v := by simp [World.cell?, h]
theorem PQ.seen {Bd Bo Bn Bs S : Nat} {sd so : Value} {n : Nat} {T : List Bool} {W : World} (h : PQ Bd Bo Bn Bs S sd so n T W) (i : Nat) (hi : i < n) : W.cell? ⟨S, i, none⟩ = some (.bool (T.getD i false)) ∧ W.frozen? ⟨S, i, none⟩ = false := by
  have := h.len
  have hi' : i < T.length := by omega
  constructor
  · simp [World.cell?, h.row, List.getD_eq_getElem?_getD, hi']
  · simp [World.frozen?, h.row]
theorem PQ.only {Bd Bo Bn Bs S R : Nat} {sd so : Value} {n : Nat} {T : List Bool} {W W' : World} (h : PQ Bd Bo Bn Bs S sd so n T W) (k : Only R W W') (h1 : R ≠ Bd) (h2 : R ≠ Bo) (h3 : R ≠ Bn) (h4 : R ≠ Bs) (h5 : R ≠ S) : PQ Bd Bo Bn Bs S sd so n T W' :=
  ⟨(k.block _ (Ne.symm h1)).trans h.fd, (k.block _ (Ne.symm h2)).trans h.fo, (k.block _ (Ne.symm h3)).trans h.fn, (k.block _ (Ne.symm h4)).trans h.fs, (k.block _ (Ne.symm h5)).trans h.row, h.len⟩
theorem PQ.mark {Bd Bo Bn Bs S : Nat} {sd so : Value} {n : Nat} {T : List Bool} {W : World} (h : PQ Bd Bo Bn Bs S sd so n T W) (i : Nat) : PQ Bd Bo Bn Bs S sd so n (T.set i true) (W.setCell ⟨S, i, none⟩ (.bool true)) := by
  have k := Only.set W S i (.bool true)
  refine ⟨(k.block _ (ne_type h.fd h.row (by decide))).trans h.fd, (k.block _ (ne_type h.fo h.row (by decide))).trans h.fo, (k.block _ (ne_type h.fn h.row (by decide))).trans h.fn, (k.block _ (ne_type h.fs h.row (by decide))).trans h.fs, ?_, by rw [List.length_set]; exact h.len⟩
  rw [heap_set h.row]
  simp
set_option maxHeartbeats 4000000 in
theorem way_walk (k : Nat) (A0 : Option Addr) (c0 : Nat) (l0 : List Int) (A1 : Option Addr) (c1 : Nat) (l1 : List Int) (n len Bd Bo Bn Bs S : Nat) (w0 w : World) (hr0 : Kd.C (Kd.int .i64) w0 A0 len l0) (hr1 : Kd.C (Kd.int .i64) w0 A1 len l1)
    (hl0 : l0.length = len) (hl1 : l1.length = len) (hlen : len = 2 * n) (hn : n ≤ 1000) (hB : Below w0.heap.size w0 w) (hS : w0.heap.size ≤ S) (up : Bool) (p : Int) (T T' : List Bool) (q : Int) (hP : PQ Bd Bo Bn Bs S (.slice A0 len c0) (.slice A1 len c1) n T w)
    (h : plait_way l0 l1 n k up p T = some (q, T')) :
    Calls Try.prog 86 #[.bool up, .int .i64 p, .pointer (some ⟨Bo, 0, none⟩), .pointer (some ⟨Bd, 0, none⟩), .pointer (some ⟨Bn, 0, none⟩), .pointer (some ⟨Bs, 0, none⟩)] w fun e w' => e = .returned (.int .i64 q) ∧ PQ Bd Bo Bn Bs S (.slice A0 len c0) (.slice A1 len c1) n T' w' ∧ Only S w w' := by
  have HR0 := Lib.hid hr0
  have HR1 := Lib.hid hr1
  have HL0 := Lib.hid hl0
  have HL1 := Lib.hid hl1
  have HLN := Lib.hid hlen
  have HB := Lib.hid hB
  have HP := Lib.hid hP
  have H := Lib.hid h
  clear hr0 hr1 hl0 hl1 hlen hB hP h
  go_enter Try.func86, Try.ntmps86
  go_wp2
  go_loopg [0, 1] k (fun kq v0 v1 w' => ∃ (u1 : Bool) (p1 : Int) (T1 : List Bool), v0 = .bool u1 ∧ v1 = .int .i64 p1 ∧ Hid (plait_way l0 l1 n kq u1 p1 T1 = some (q, T')) ∧ Hid (kq ≤ k) ∧ Hid (PQ Bd Bo Bn Bs S (.slice A0 len c0) (.slice A1 len c1) n T1 w') ∧ Hid (Only S w w'))
  case atStart => exact ⟨up, p, T, rfl, rfl, H, Nat.le_refl _, HP, Lib.hid (Only.refl _ _)⟩
  case round =>
    obtain ⟨u1, p1, T1, rfl, rfl, HA, HK, HQ, HO⟩ := hrel
    cases gk with
    | zero => exact absurd HA.out (by simp [plait_way])
    | succ k1 =>
      obtain ⟨wo, rfl⟩ : ∃ wo : World, wo = wr := ⟨_, rfl⟩
      have h := HA.out
      clear HA
      simp only [plait_way] at h
      by_cases c1_ : 0 ≤ p1 ∧ p1 < (l0.length : Int)
      · rw [if_pos c1_] at h
        obtain ⟨p0, p2⟩ := c1_
        have p3 : p1 < (len : Int) := by have := HL0.out; omega
        have hbw : Below w0.heap.size w0 wo := HB.out.trans (HO.out.below hS)
        obtain ⟨a0, e0, hx0⟩ := Kd.at_int (Kd.C_below HR0.out hbw) p1 p0 p3
        obtain ⟨a1, e1, hx1⟩ := Kd.at_int (Kd.C_below HR1.out hbw) p1 p0 p3
        subst e0 e1
        have hcd := cell_one HQ.out.fd
        have hco := cell_one HQ.out.fo
        have hcn := cell_one HQ.out.fn
        have hcs := cell_one HQ.out.fs
        have d0 : decide ((0 : Int) ≤ p1) = true := decide_eq_true p0
        have d1 : decide (p1 < (len : Int)) = true := decide_eq_true p3
        have hne1 : Bn ≠ S := ne_type HQ.out.fn HQ.out.row (by decide)
        have hne2 : S ≠ Bn := Ne.symm hne1
        clear hbw p2
        cases u1 with
        | true =>
          simp only [if_true] at h
          obtain ⟨x, hx⟩ : ∃ x, rd l0 p1 = x := ⟨_, rfl⟩
          obtain ⟨y, hy⟩ : ∃ y, rd l1 p1 = y := ⟨_, rfl⟩
          rw [hx] at h
          rw [hx] at hx0
          rw [hy] at hx1
          clear hx hy
          by_cases c2 : x < (n : Int)
          · rw [if_pos (decide_eq_true c2).symm] at h
            have h2 := Option.some.inj h
            obtain ⟨rfl, rfl⟩ := Prod.mk.inj h2
            have d2 : decide (x < (n : Int)) = true := decide_eq_true c2
            clear h h2
            go_wp2
            go_ret
            exact ⟨rfl, HQ.out, HO.out⟩
          · rw [if_neg (by rw [decide_eq_false c2]; simp)] at h
            have d2 : decide (x < (n : Int)) = false := decide_eq_false c2
            by_cases c3 : 0 ≤ x ∧ 0 < n
            · rw [if_pos c3] at h
              obtain ⟨c3, c4⟩ := c3
              have hm0 : 0 ≤ x % (n : Int) := Int.emod_nonneg _ (by omega)
              have hm1 : x % (n : Int) < (n : Int) := Int.emod_lt_of_pos _ (by omega)
              have HH := Lib.hid h
              obtain ⟨hcs1, hfs1⟩ := HQ.out.seen (x % (n : Int)).toNat (by omega)
              clear h
              go_wp2
              go_roundg k1
              case measure => have := HK.out; omega
              case rel => exact ⟨_, _, _, rfl, rfl, HH, Lib.hid (by have := HK.out; omega), Lib.hid (HQ.out.mark _), Lib.hid (HO.out.trans (Only.set _ _ _ _))⟩
            · rw [if_neg c3] at h
              cases h
        | false =>
          simp only [Bool.false_eq_true, if_false] at h
          obtain ⟨x, hx⟩ : ∃ x, rd l0 p1 = x := ⟨_, rfl⟩
          obtain ⟨y, hy⟩ : ∃ y, rd l1 p1 = y := ⟨_, rfl⟩
          rw [hy] at h
          rw [hx] at hx0
          rw [hy] at hx1
          clear hx hy
          by_cases c2 : y < (n : Int)
          · rw [if_neg (by rw [decide_eq_true c2]; simp)] at h
            have d2 : decide (y < (n : Int)) = true := decide_eq_true c2
            by_cases c3 : 0 ≤ y ∧ 0 < n
            · rw [if_pos c3] at h
              obtain ⟨c3, c4⟩ := c3
              have hm0 : 0 ≤ y % (n : Int) := Int.emod_nonneg _ (by omega)
              have hm1 : y % (n : Int) < (n : Int) := Int.emod_lt_of_pos _ (by omega)
              have HH := Lib.hid h
              obtain ⟨hcs1, hfs1⟩ := HQ.out.seen (y % (n : Int)).toNat (by omega)
              clear h
              go_wp2
              go_roundg k1
              case measure => have := HK.out; omega
              case rel => exact ⟨_, _, _, rfl, rfl, HH, Lib.hid (by have := HK.out; omega), Lib.hid (HQ.out.mark _), Lib.hid (HO.out.trans (Only.set _ _ _ _))⟩
            · rw [if_neg c3] at h
              cases h
          · rw [if_pos (decide_eq_false c2).symm] at h
            have h2 := Option.some.inj h
            obtain ⟨rfl, rfl⟩ := Prod.mk.inj h2
            have d2 : decide (y < (n : Int)) = false := decide_eq_false c2
            clear h h2
            go_wp2
            go_ret
            exact ⟨rfl, HQ.out, HO.out⟩
      · rw [if_neg c1_] at h
        cases h
end Go.Proofs.Ytjfkompfkgjdaaa.PC
end
section
/- The product of two diagrams: the walk. -/
namespace Go.Proofs.Ytjfkompfkgjdaaa.PC
open Go.RowKit Go.Proofs.YtjfkompfkgjdaaaW.PrintWords Go.Proofs.YtjfkompfkgjdaaaW.PrintLast Go.Proofs.YtjfkompfkgjdaaaW.PrintMore
theorem size_same (A0 : Option Addr) (c0 len n : Nat) (w : World) (hl : len = 2 * n) (hn : n ≤ 1000) : Calls Try.prog 72 #[.slice A0 len c0] w fun e w' => e = .returned (.int .i64 (n : Int)) ∧ w = w' := by
  subst hl
  have h1 : ((2 * n : Nat) : Int) / 2 = (n : Int) := by omega
  go_enter Try.func72, Try.ntmps72
  go_wp2
  go_ret
  exact ⟨by first | rfl | (congr 2), rfl⟩
/-- the state of the walk: what lay below is as it was; the variables; the diagram that is made -/
structure PR (w0 : World) (sd so : Value) (n : Nat) (T : List Bool) (out : List Int) (W : World) : Prop where
  below : Below w0.heap.size w0 W
  q : PQ w0.heap.size (w0.heap.size + 1) (w0.heap.size + 1 + 1) (w0.heap.size + 1 + 1 + 1 + 1 + 1) (w0.heap.size + 1 + 1 + 1 + 1) sd so n T W
  fout : W.heap[w0.heap.size + 1 + 1 + 1]? = some (.cells (nums .i64 out).toArray 3 (0, 0))
  flen : out.length = 2 * n
theorem PR.only {w0 W W' : World} {sd so : Value} {n : Nat} {T T' : List Bool} {out : List Int} (h : PR w0 sd so n T out W) (k : Only (w0.heap.size + 1 + 1 + 1 + 1) W W') (hq : PQ w0.heap.size (w0.heap.size + 1) (w0.heap.size + 1 + 1) (w0.heap.size + 1 + 1 + 1 + 1 + 1) (w0.heap.size + 1 + 1 + 1 + 1) sd so n T' W') : PR w0 sd so n T' out W' :=
  ⟨h.below.trans (k.below (by omega)), hq, (k.block _ (by omega)).trans h.fout, h.flen⟩
theorem PR.put {w0 W : World} {sd so : Value} {n : Nat} {T : List Bool} {out : List Int} (h : PR w0 sd so n T out W) (i : Nat) (x : Int) : PR w0 sd so n T (out.set i x) (W.setCell ⟨w0.heap.size + 1 + 1 + 1, i, none⟩ (.int .i64 x)) := by
  refine ⟨h.below.trans ((Only.set W _ i _).below (by omega)), h.q.only (Only.set W _ i _) (by omega) (by omega) (by omega) (by omega) (by omega), ?_, by rw [List.length_set]; exact h.flen⟩
  rw [heap_set h.fout]
  simp [nums, List.map_set]
theorem PR.cell {w0 W : World} {sd so : Value} {n : Nat} {T : List Bool} {out : List Int} (h : PR w0 sd so n T out W) (i : Nat) (hi : i < 2 * n) : (∃ u, W.cell? ⟨w0.heap.size + 1 + 1 + 1, i, none⟩ = some u) ∧ W.frozen? ⟨w0.heap.size + 1 + 1 + 1, i, none⟩ = false := by
  have := h.flen
  have hi' : i < out.length := by omega
  exact ⟨⟨.int .i64 (out[i]), by simp [World.cell?, h.fout, nums, hi']⟩, by simp [World.frozen?, h.fout]⟩
theorem PQ.drew {Bd Bo Bn Bs S : Nat} {sd so : Value} {n : Nat} {T : List Bool} {W : World} (h : PQ Bd Bo Bn Bs S sd so n T W) : PQ Bd Bo Bn Bs S sd so n T W.drew := ⟨h.fd, h.fo, h.fn, h.fs, h.row, h.len⟩
theorem PR.drew {w0 W : World} {sd so : Value} {n : Nat} {T : List Bool} {out : List Int} (h : PR w0 sd so n T out W) : PR w0 sd so n T out W.drew := ⟨h.below.drew, h.q.drew, h.fout, h.flen⟩
theorem PR.drewN {w0 W : World} {sd so : Value} {n : Nat} {T : List Bool} {out : List Int} (h : PR w0 sd so n T out W) (k : Nat) : PR w0 sd so n T out (W.drewN k) := ⟨⟨h.below.os, h.below.tape, h.below.output, h.below.size, h.below.block⟩, ⟨h.q.fd, h.q.fo, h.q.fn, h.q.fs, h.q.row, h.q.len⟩, h.fout, h.flen⟩
theorem PR.see {w0 W : World} {sd so : Value} {n : Nat} {T : List Bool} {out : List Int} (h : PR w0 sd so n T out W) (i : Nat) : PR w0 sd so n (T.set i true) out (W.setCell ⟨w0.heap.size + 1 + 1 + 1 + 1, i, none⟩ (.bool true)) := h.only (Only.set _ _ _ _) (h.q.mark i)
theorem made_int (M : Nat) : madeCells #[Value.int .i64 0] M = (nums .i64 (List.replicate M 0)).toArray := by
  apply Array.ext
  · simp [madeCells, nums]
  · intro i h1 h2
    simp [madeCells, nums, Nat.mod_one]
theorem made_bool (M : Nat) : madeCells #[Value.bool false] M = ((List.replicate M false).map Value.bool).toArray := by
  apply Array.ext
  · simp [madeCells]
  · intro i h1 h2
    simp [madeCells, Nat.mod_one]
theorem PR.start (w : World) (sd so : Value) (n : Nat) : PR w sd so n (List.replicate n false) (List.replicate (2 * n) 0) ((((((w.alloc (.cells #[sd] 65)).alloc (.cells #[so] 65)).alloc (.cells #[.int .i64 (n : Int)] 3)).alloc (.cells (madeCells #[.int .i64 0] (2 * n)) 3)).alloc (.cells (madeCells #[.bool false] n) 4)).alloc (.cells #[.slice (some ⟨w.heap.size + 1 + 1 + 1 + 1, 0, none⟩) n n] 69)) := by
  refine ⟨((((((Below.refl _ _).alloc (Nat.le_refl _) _).alloc (by simp) _).alloc (by simp; omega) _).alloc (by simp; omega) _).alloc (by simp; omega) _).alloc (by simp; omega) _, ⟨?_, ?_, ?_, ?_, ?_, by simp⟩, ?_, by simp⟩
  all_goals simp only [World.alloc, Array.getElem?_push, Array.size_push, made_int, made_bool]
  · rw [if_neg (by omega), if_neg (by omega), if_neg (by omega), if_neg (by omega), if_neg (by omega), if_pos trivial]
  · rw [if_neg (by omega), if_neg (by omega), if_neg (by omega), if_neg (by omega), if_pos trivial]
  · rw [if_neg (by omega), if_neg (by omega), if_neg (by omega), if_pos trivial]
  · rw [if_pos trivial]
  · rw [if_neg (by omega), if_pos trivial]
  · rw [if_neg (by omega), if_neg (by omega), if_pos trivial]
theorem R_of_ints {W : World} {g base : Nat} {xs : List Int} (h : W.heap[g]? = some (.cells (nums .i64 xs).toArray 3 (0, 0))) (hb : base ≤ g) (hl : xs.length ≤ 1000000) : Kd.R (Kd.int .i64) 3 W base (fun _ => True) (.slice (some ⟨g, 0, none⟩) xs.length xs.length) xs :=
  Kd.R_of_own ⟨by simp [encs], .inr ⟨g, xs.length, _, rfl, hb, h, Nat.le_refl _, by unfold maxLen; omega, by simp [nums], by simp [encs, nums, List.take_of_length_le]⟩⟩ (fun _ _ => trivial)
set_option maxHeartbeats 4000000 in
theorem product_walk (A0 : Option Addr) (c0 : Nat) (l0 : List Int) (A1 : Option Addr) (c1 : Nat) (l1 : List Int) (n len : Nat) (w : World) (hr0 : Kd.C (Kd.int .i64) w A0 len l0) (hr1 : Kd.C (Kd.int .i64) w A1 len l1)
    (hl0 : l0.length = len) (hl1 : l1.length = len) (hlen : len = 2 * n) (hn : n ≤ 500) (out : List Int) (T : List Bool) (many : Nat)
    (h1 : plait_ways l0 l1 n n 0 (List.replicate len 0) (List.replicate n false) = some (out, T)) (h2 : plait_loops l0 l1 n n 0 0 T = some many) :
    Calls Try.prog 66 #[.slice A0 len c0, .slice A1 len c1] w fun e w' => e = .returned (.tuple #[.slice (some ⟨w.heap.size + 1 + 1 + 1, 0, none⟩) (2 * n) (2 * n), .int .i64 (many : Int)]) ∧ ∃ T', PR w (.slice A0 len c0) (.slice A1 len c1) n T' out w' := by
  have HR0 := Lib.hid hr0
  have HR1 := Lib.hid hr1
  have HL0 := Lib.hid hl0
  have HL1 := Lib.hid hl1
  have HLN := Lib.hid hlen
  have H1 := Lib.hid h1
  have H2 := Lib.hid h2
  have hsz := size_same A0 c0 len n
  have HSZ := Lib.hid hsz
  have hmk1 := @print_make_of Try.prog 65 3 (.int .i64 0) 8 Try.underlying65 info3 rfl (by decide) (2 * n) (by omega)
  have hmk2 := @print_make_of Try.prog 69 4 (.bool false) 1 Try.underlying69 info4 rfl (by decide) n (by omega)
  have e2n : ((2 * n : Nat) : Int) = 2 * (n : Int) := by omega
  rw [e2n] at hmk1
  clear e2n
  clear hr0 hr1 hl0 hl1 hlen h1 h2 hsz
  go_enter Try.func66, Try.ntmps66
  go_wp2_with (first | (go_at_call 72; refine (HSZ.out _ HLN.out (by omega)).mono ?_; rintro e w' ⟨rfl, rfl⟩))
  go_loopw [24] (fun t w' => ∃ (j : Nat) (out1 : List Int) (T1 : List Bool), j ≤ n ∧ t = .int .i64 (j : Int) ∧ Hid (plait_ways l0 l1 n (n - j) j out1 T1 = some (out, T)) ∧ Hid (PR w (.slice A0 len c0) (.slice A1 len c1) n T1 out1 w')) (fun t _ => n - (intOf t).toNat)
  case atStart => exact ⟨0, _, _, Nat.zero_le _, rfl, by rw [Nat.sub_zero]; exact H1, by rw [HLN.out]; exact PR.start w _ _ n⟩
  case round =>
    obtain ⟨j, out1, T1, hj, rfl, HA, HP⟩ := hrel
    obtain ⟨wo, rfl⟩ : ∃ wo : World, wo = wr := ⟨_, rfl⟩
    have hcn := cell_one HP.out.q.fn
    by_cases hlt : j < n
    · have d1 : decide ((j : Int) < (n : Int)) = true := decide_eq_true (by omega)
      have h := HA.out
      rw [show n - j = (n - (j + 1)) + 1 by omega] at h
      simp only [plait_ways] at h
      obtain ⟨⟨q1, T2⟩, ha, h⟩ := Option.bind_eq_some_iff.1 h
      obtain ⟨⟨q2, T3⟩, hb, h⟩ := Option.bind_eq_some_iff.1 h
      have HH := Lib.hid h
      have HW1 := Lib.hid ha
      rw [show (((n + j : Nat)) : Int) = (n : Int) + (j : Int) by omega] at hb
      have HW2 := Lib.hid hb
      clear ha hb h HA
      obtain ⟨⟨u1, hu1⟩, hf1⟩ := HP.out.cell j (by omega)
      have hjj : (j : Int) < ((2 * n : Nat) : Int) := by omega
      go_wp2_with (first | (go_at_call 86; refine (way_walk (2 * n + 2) A0 c0 l0 A1 c1 l1 n len w.heap.size _ _ _ _ w _ HR0.out HR1.out HL0.out HL1.out HLN.out (by omega) HP.out.below (by omega) true (j : Int) T1 T2 q1 HP.out.q HW1.out).mono ?_; rintro e w' ⟨rfl, hq', ho'⟩; have HP2 := Lib.hid (HP.out.only ho' hq'); obtain ⟨⟨u2, hu2⟩, hf2⟩ := HP2.out.cell j (by omega); have HP3 := Lib.hid (HP2.out.put j q1); have hcn3 := cell_one HP3.out.q.fn; clear hq' ho' hu1 hf1))
      have e1 : IntKind.i64.wrap ((n : Int) + (j : Int)) = (n : Int) + (j : Int) := IntWalk.i64_in _ (by omega)
      have e2 : 0 ≤ (n : Int) + (j : Int) := by omega
      have e3 : ((n : Int) + (j : Int)).toNat = n + j := by omega
      have e4 : (n : Int) + (j : Int) < ((2 * n : Nat) : Int) := by omega
      have e5 : (n : Int) + (j : Int) < 2 * (n : Int) := by omega
      have HE : Hid (w.heap.size ≤ w.heap.size + 1 + 1 + 1 + 1 ∧ n ≤ 1000 ∧ n + j < 2 * n) := ⟨by omega, by omega, by omega⟩
      clear hjj hcn
      go_region_held3 (fun W => W.cell? ⟨w.heap.size + 1 + 1, 0, none⟩ = some (.int .i64 (n : Int)))
        (first | exact hcn3 | exact hcn4 | exact hcn5)
        (first | (go_at_call 86; refine (way_walk (2 * n + 2) A0 c0 l0 A1 c1 l1 n len w.heap.size _ _ _ _ w _ HR0.out HR1.out HL0.out HL1.out HLN.out HE.out.2.1 HP3.out.drew.below HE.out.1 false ((n : Int) + (j : Int)) T2 T3 q2 HP3.out.drew.q HW2.out).mono ?_; rintro e w4 ⟨rfl, hq', ho'⟩; have HP4 := Lib.hid (HP3.out.drew.only ho' hq'); obtain ⟨⟨u4, hu4⟩, hf4⟩ := HP4.out.cell (n + j) HE.out.2.2; have hcn4 := cell_one HP4.out.q.fn; have HP5 := Lib.hid (HP4.out.put (n + j) q2); have hcn5 := cell_one HP5.out.q.fn; clear hq' ho'))
      clear e1 e2 e3 e4 e5
      go_wp2
      go_roundw
      case rel => exact ⟨j + 1, _, _, by omega, by go_num, HH, HP5⟩
      case measure => simp [intOf]; omega
    · obtain rfl : j = n := by omega
      have d1 : decide ((j : Int) < (j : Int)) = false := decide_eq_false (by omega)
      have h := HA.out
      rw [Nat.sub_self] at h
      simp only [plait_ways] at h
      have h := Option.some.inj h
      obtain ⟨rfl, rfl⟩ := Prod.mk.inj h
      clear h HA
      go_wp2
      go_loopw [11, 45] (fun u t w' => ∃ (i many1 : Nat) (T2 : List Bool), i ≤ j ∧ u = .int .i64 (many1 : Int) ∧ many1 ≤ i ∧ t = .int .i64 (i : Int) ∧ Hid (plait_loops l0 l1 j (j - i) i many1 T2 = some many) ∧ Hid (PR w (.slice A0 len c0) (.slice A1 len c1) j T2 out1 w')) (fun _ t _ => j - (intOf t).toNat)
      case atStart => exact ⟨0, 0, _, Nat.zero_le _, rfl, Nat.le_refl _, rfl, by rw [Nat.sub_zero]; exact H2, HP⟩
      case round =>
        obtain ⟨i, many1, T2, hi, rfl, hmi, rfl, HA, HP2⟩ := hrel
        obtain ⟨wo2, rfl⟩ : ∃ wo2 : World, wo2 = wr := ⟨_, rfl⟩
        clear hcn
        have hcs := cell_one HP2.out.q.fs
        by_cases hlt2 : i < j
        · have d2 : decide ((i : Int) < (j : Int)) = true := decide_eq_true (by omega)
          obtain ⟨hs1, hs2⟩ := HP2.out.q.seen i hlt2
          have h := HA.out
          rw [show j - i = (j - (i + 1)) + 1 by omega] at h
          simp only [plait_loops] at h
          cases hT : T2.getD i false with
          | true =>
            rw [hT] at h hs1
            simp only [if_true] at h
            have HH := Lib.hid h
            clear h HA hT
            go_wp2
            go_roundw
            case rel => exact ⟨i + 1, many1, _, by omega, rfl, by omega, by go_num, HH, HP2⟩
            case measure => simp [intOf]; omega
          | false =>
            rw [hT] at h hs1
            simp only [Bool.false_eq_true, if_false] at h
            obtain ⟨T', hr, h⟩ := Option.bind_eq_some_iff.1 h
            have HH := Lib.hid h
            have HRN := Lib.hid hr
            clear h HA hT hr
            go_wp2
            go_loopg [13] (j + 1) (fun kq v w' => ∃ (a : Int) (T3 : List Bool), v = .int .i64 a ∧ Hid (plait_round l0 l1 j kq a T3 = some T') ∧ Hid (kq ≤ j + 1) ∧ Hid (PR w (.slice A0 len c0) (.slice A1 len c1) j T3 out1 w'))
            case atStart => exact ⟨_, _, rfl, HRN, Nat.le_refl _, HP2⟩
            case round =>
              obtain ⟨a, T3, rfl, HA, HK, HP3⟩ := hrel
              clear hs1 hs2 hcs
              cases gk with
              | zero => exact absurd HA.out (by simp [plait_round])
              | succ k1 =>
                obtain ⟨wo3, rfl⟩ : ∃ wo3 : World, wo3 = wr := ⟨_, rfl⟩
                have h := HA.out
                clear HA
                simp only [plait_round] at h
                by_cases c1_ : 0 ≤ a ∧ a < (j : Int)
                · rw [if_pos c1_] at h
                  obtain ⟨p0, p1⟩ := c1_
                  have hcs := cell_one HP3.out.q.fs
                  obtain ⟨hs1, hs2⟩ := HP3.out.q.seen a.toNat (by omega)
                  cases hT : T3.getD a.toNat false with
                  | true =>
                    rw [hT] at h hs1
                    simp only [if_true] at h
                    have h := Option.some.inj h
                    subst h
                    clear hT
                    go_wp2
                    go_roundw
                    case rel => exact ⟨i + 1, many1 + 1, _, by omega, by go_num, by omega, by go_num, HH, HP3⟩
                    case measure => simp [intOf]; omega
                  | false =>
                    rw [hT] at h hs1
                    simp only [Bool.false_eq_true, if_false] at h
                    clear hT
                    by_cases c2_ : 0 ≤ rd l1 a ∧ rd l1 a < (j : Int)
                    · rw [if_pos c2_] at h
                      have hP4 := HP3.out.see a.toNat
                      have hP5 := hP4.see (rd l1 a).toNat
                      have hal : a < (len : Int) := by have := HLN.out; omega
                      obtain ⟨a1, e1, hx1⟩ := Kd.at_int (Kd.C_below HR1.out hP4.below) a p0 hal
                      obtain ⟨a0, e0, hx0⟩ := Kd.at_int (Kd.C_below HR0.out hP5.below) (rd l1 a + (j : Int)) (by omega) (by have := HLN.out; omega)
                      obtain ⟨hs3, hs4⟩ := hP4.q.seen (rd l1 a).toNat (by omega)
                      have hco := cell_one hP4.q.fo
                      have hcs4 := cell_one hP4.q.fs
                      have hcd := cell_one hP5.q.fd
                      have hcn5 := cell_one hP5.q.fn
                      obtain ⟨x, hx⟩ : ∃ x, rd l0 (rd l1 a + (j : Int)) = x := ⟨_, rfl⟩
                      rw [hx] at hx0
                      obtain ⟨y, hy⟩ : ∃ y, rd l1 a = y := ⟨_, rfl⟩
                      rw [hy] at hx1 hx0 hs3 hs4 hcd hcn5 c2_
                      obtain ⟨y0, y1⟩ := c2_
                      rw [hx, hy] at h
                      rw [hy] at hP5
                      have HH2 := Lib.hid h
                      have HP5 := Lib.hid hP5
                      have HX := Lib.hid hx
                      have HY := Lib.hid hy
                      subst e0 e1
                      have f1 : IntKind.i64.wrap (y + (j : Int)) = y + (j : Int) := IntWalk.i64_in _ (by omega)
                      have f2 : 0 ≤ y + (j : Int) := by omega
                      have f3 : y + (j : Int) < (len : Int) := by have := HLN.out; omega
                      have f4 : y < (len : Int) := by omega
                      clear h hP4 hP5 hx hy
                      go_wp2
                      go_quiet (fail)
                      clear f1 f2 f3 f4
                      go_wp2
                      go_roundg k1
                      case measure => have := HK.out; omega
                      case rel => exact ⟨_, _, rfl, HH2, Lib.hid (by have := HK.out; omega), Lib.hid (HP5.out.drewN _)⟩
                    · rw [if_neg c2_] at h
                      cases h
                · rw [if_neg c1_] at h
                  cases h
        · obtain rfl : i = j := by omega
          have d2 : decide ((i : Int) < (i : Int)) = false := decide_eq_false (by omega)
          have h := HA.out
          rw [Nat.sub_self] at h
          simp only [plait_loops] at h
          have h := Option.some.inj h
          subst h
          clear HA
          go_wp2
          go_ret2
          exact ⟨rfl, _, HP2.out⟩
end Go.Proofs.Ytjfkompfkgjdaaa.PC
end
section
namespace Go.Proofs.Ytjfkompfkgjdaaa.PC
open Go.RowKit Go.Proofs.YtjfkompfkgjdaaaW.PrintWords Go.Proofs.YtjfkompfkgjdaaaW.PrintLast Go.Proofs.YtjfkompfkgjdaaaW.PrintMore
attribute [local go_sem] max2_int min2_int max_two min_two max_three min_three max_four min_four   -- for this text's walks alone
set_option linter.unusedVariables false
set_option linter.unusedSimpArgs false
/-! ### plait_diagram_product: function 66 -/
def plait_diagram_product.f (l0 : List Int) (l1 : List Int) : Option (List Int × Int) :=
 if l0.length = l1.length ∧ l0.length = 2 * (l0.length / 2) ∧ l0.length ≤ 1000 then
  (plait_ways l0 l1 (l0.length / 2) (l0.length / 2) 0 (List.replicate l0.length 0) (List.replicate (l0.length / 2) false)).bind fun r =>
   (plait_loops l0 l1 (l0.length / 2) (l0.length / 2) 0 0 r.2).bind fun many => some (r.1, (many : Int))
 else none
theorem plait_diagram_product.calls (A0 : Option Addr) (c0 : Nat) (l0 : List Int) (A1 : Option Addr) (c1 : Nat) (l1 : List Int) (r1 : List Int) (r2 : Int) (w : World) (hr0 : Kd.C (Kd.int .i64) w A0 l0.length l0) (hc0 : l0.length ≤ c0) (hr1 : Kd.C (Kd.int .i64) w A1 l1.length l1) (hc1 : l1.length ≤ c1) (h : plait_diagram_product.f l0 l1 = some (r1, r2)) :
  Calls Try.prog 66 #[.slice A0 l0.length c0, .slice A1 l1.length c1] w fun e w' => ∃ v0_ : Value, e = .returned (.tuple #[v0_, .int .i64 r2]) ∧ Kd.R (Kd.int .i64) 3 w' w.heap.size (fun _ => True) v0_ r1 ∧ Below w.heap.size w w' := by
 unfold plait_diagram_product.f at h
 by_cases c : l0.length = l1.length ∧ l0.length = 2 * (l0.length / 2) ∧ l0.length ≤ 1000
 ·rw [if_pos c] at h
  obtain ⟨c1_, c2_, c3_⟩ := c
  obtain ⟨⟨out, T⟩, ha, h⟩ := Option.bind_eq_some_iff.1 h
  obtain ⟨many, hb, h⟩ := Option.bind_eq_some_iff.1 h
  have h := Option.some.inj h
  obtain ⟨rfl, rfl⟩ := Prod.mk.inj h
  rw [← c1_] at hr1 ⊢
  refine (product_walk A0 c0 l0 A1 c1 l1 (l0.length / 2) l0.length w hr0 hr1 rfl c1_.symm c2_ (by omega) out T many ha hb).mono ?_
  rintro e w' ⟨rfl, T', hP⟩
  have hl := hP.flen
  have hR := R_of_ints (base := w.heap.size) hP.fout (by omega) (by omega)
  rw [hl] at hR
  exact ⟨_, rfl, hR, hP.below⟩
 ·rw [if_neg c] at h
  cases h
end Go.Proofs.Ytjfkompfkgjdaaa.PC
end
section
/- The diagram that a hook on top of it leads to another one, as the program finds it: plain. -/
namespace Go.Proofs.Ytjfkompfkgjdaaa.PC
open Go.RowKit Go.Proofs.YtjfkompfkgjdaaaW.PrintWords Go.Proofs.YtjfkompfkgjdaaaW.PrintLast Go.Proofs.YtjfkompfkgjdaaaW.PrintMore
/-- an arch opened: its ends take the places of the ends of another strand -/
def plait_open (d : List Int) (p q e0 e1 : Int) : List Int := (((d.set e0.toNat p).set p.toNat e0).set e1.toNat q).set q.toNat e1
/-- is it the one? -/
def plait_try (k : Nat) (d : List Int) (n : Nat) (i want : Int) (o : List Int) : Option (Option (List Int)) :=
  (plait_diagram_arches.f k o).bind fun a => if a.2 = true then ((plait_diagram_height.f k o).bind fun h => if h = want then ((plait_hook.f k (n : Int) i).bind fun hk => (plait_diagram_product.f hk o).bind fun b => if b.2 = 0 then ((plait_diagram_int_69.f k b.1 d).bind fun eq => if eq = true then some (some o) else some none) else some none) else some none) else some none
def plait_ends (k : Nat) (d : List Int) (n : Nat) (i want p q : Int) : Nat → Option (Option (List Int))
  | 0 => (plait_try k d n i want (plait_open d p q i (i + 1))).bind fun r => if r.isSome = true then some r else ((plait_try k d n i want (plait_open d p q (i + 1) i)).bind fun s => some s)
  | 1 => (plait_try k d n i want (plait_open d p q (i + 1) i)).bind fun s => some s
  | _ => some none
def plait_search (k : Nat) (d : List Int) (n : Nat) (i want : Int) : Nat → Nat → Option (List Int)
  | 0, _ => some []
  | m + 1, p =>
    if (p : Int) = i ∨ (p : Int) = i + 1 ∨ rd d (p : Int) = i ∨ rd d (p : Int) = i + 1 then plait_search k d n i want m (p + 1)
    else if 0 ≤ rd d (p : Int) ∧ rd d (p : Int) < (d.length : Int) then ((plait_ends k d n i want (p : Int) (rd d (p : Int)) 0).bind fun r => if r.isSome = true then some (r.getD []) else plait_search k d n i want m (p + 1))
    else none
def plait_short (k : Nat) (l0 : List Int) (a1 : Int) : Option (List Int) :=
  if l0.length = 2 * (l0.length / 2) ∧ l0.length ≤ 1000 ∧ 0 ≤ a1 ∧ a1 + 1 < ((l0.length / 2 : Nat) : Int) then
    (if rd l0 a1 = a1 + 1 then ((plait_diagram_height.f k l0).bind fun ht => plait_search k l0 (l0.length / 2) a1 (wrap64 (ht - 1)) (2 * (l0.length / 2)) 0) else some [])
  else none
/-- the first hook that leads on -/
def plait_pick (k : Nat) (d : List Int) : Nat → Nat → Option (Option (Nat × List Int))
  | 0, _ => some none
  | c + 1, i => (plait_short k d (i : Int)).bind fun o => if o = [] then plait_pick k d c (i + 1) else some (some (i, o))
def plait_wordGo (k : Nat) : Nat → List Int → List Int → Option (List Int)
  | 0, _, _ => none
  | m + 1, d, out =>
    if d.length = 2 * (d.length / 2) ∧ d.length ≤ 1000 ∧ 0 < d.length then
      (plait_diagram_height.f k d).bind fun h => if h > 0 then ((plait_pick k d (d.length / 2 - 1) 0).bind fun r => if r.isSome = true then plait_wordGo k m (r.getD (0, [])).2 (out ++ [(((r.getD (0, [])).1 : Nat) : Int)]) else none) else some out
    else none
theorem plait_try_mono (k : Nat) (d : List Int) (n : Nat) (i want : Int) (o : List Int) : LeO (plait_try k d n i want o) (plait_try (k + 1) d n i want o) := by
  unfold plait_try
  exact LeO.bind (plait_diagram_arches.mono _ k) fun _ => LeO.ite (LeO.bind (plait_diagram_height.mono _ k) fun _ => LeO.ite (LeO.bind (plait_hook.mono _ _ k) fun _ => LeO.bind (LeO.refl _) fun _ => LeO.ite (LeO.bind (plait_diagram_int_69.mono _ _ k) fun _ => LeO.refl _) (LeO.refl _)) (LeO.refl _)) (LeO.refl _)
theorem plait_ends_mono (k : Nat) (d : List Int) (n : Nat) (i want p q : Int) : ∀ j, LeO (plait_ends k d n i want p q j) (plait_ends (k + 1) d n i want p q j)
  | 0 => by
    simp only [plait_ends]
    exact LeO.bind (plait_try_mono _ _ _ _ _ _) fun _ => LeO.ite (LeO.refl _) (LeO.bind (plait_try_mono _ _ _ _ _ _) fun _ => LeO.refl _)
  | 1 => by
    simp only [plait_ends]
    exact LeO.bind (plait_try_mono _ _ _ _ _ _) fun _ => LeO.refl _
  | _ + 2 => by simp only [plait_ends]; exact LeO.refl _
theorem plait_search_mono (k : Nat) (d : List Int) (n : Nat) (i want : Int) : ∀ m p, LeO (plait_search k d n i want m p) (plait_search (k + 1) d n i want m p)
  | 0, _ => by simp only [plait_search]; exact LeO.refl _
  | m + 1, p => by
    simp only [plait_search]
    exact LeO.ite (plait_search_mono k d n i want m _) (LeO.ite (LeO.bind (plait_ends_mono _ _ _ _ _ _ _ _) fun _ => LeO.ite (LeO.refl _) (plait_search_mono k d n i want m _)) (LeO.refl _))
theorem plait_short_mono (k : Nat) (l0 : List Int) (a1 : Int) : LeO (plait_short k l0 a1) (plait_short (k + 1) l0 a1) := by
  unfold plait_short
  exact LeO.ite (LeO.ite (LeO.bind (plait_diagram_height.mono _ k) fun _ => plait_search_mono _ _ _ _ _ _ _) (LeO.refl _)) (LeO.refl _)
theorem plait_pick_mono (k : Nat) (d : List Int) : ∀ c i, LeO (plait_pick k d c i) (plait_pick (k + 1) d c i)
  | 0, _ => by simp only [plait_pick]; exact LeO.refl _
  | c + 1, i => by
    simp only [plait_pick]
    exact LeO.bind (plait_short_mono _ _ _) fun _ => LeO.ite (plait_pick_mono k d c _) (LeO.refl _)
theorem plait_wordGo_mono (k : Nat) : ∀ m d out, LeO (plait_wordGo k m d out) (plait_wordGo (k + 1) m d out)
  | 0, _, _ => by simp only [plait_wordGo]; exact LeO.refl _
  | m + 1, d, out => by
    simp only [plait_wordGo]
    exact LeO.ite (LeO.bind (plait_diagram_height.mono _ k) fun _ => LeO.ite (LeO.bind (plait_pick_mono _ _ _ _) fun _ => LeO.ite (plait_wordGo_mono k m _ _) (LeO.refl _)) (LeO.refl _)) (LeO.refl _)
end Go.Proofs.Ytjfkompfkgjdaaa.PC
end
section
/- shorter: the walk. -/
namespace Go.Proofs.Ytjfkompfkgjdaaa.PC
open Go.RowKit Go.Proofs.YtjfkompfkgjdaaaW.PrintWords Go.Proofs.YtjfkompfkgjdaaaW.PrintLast Go.Proofs.YtjfkompfkgjdaaaW.PrintMore
/-- what is handed back: nothing, or a list of the call's own -/
def Handed1 (w0 w' : World) (v : Value) (r : List Int) : Prop := (r = [] ∧ v = .slice none 0 0) ∨ (r ≠ [] ∧ Kd.R (Kd.int .i64) 3 w' w0.heap.size (fun _ => True) v r)
/-- the list that is tried, and the two ends -/
structure OS (w0 : World) (E G cap len T : Nat) (e0 e1 : Int) (o : List Int) (W : World) : Prop where
  below : Below w0.heap.size w0 W
  row : Kd.R (Kd.int .i64) 3 W w0.heap.size (fun k => k ≠ E) (.slice (some ⟨G, 0, none⟩) len cap) o
  arr : W.heap[E]? = some (.cells #[.int .i64 e0, .int .i64 e1] T (0, 0))
  hG : w0.heap.size ≤ G
theorem OS.ne {w0 : World} {E G cap len T : Nat} {e0 e1 : Int} {o : List Int} {W : World} (h : OS w0 E G cap len T e0 e1 o W) : G ≠ E := h.row.1 G (by simp [Value.ownBlock])
theorem OS.put {w0 : World} {E G cap len T : Nat} {e0 e1 : Int} {o : List Int} {W : World} (h : OS w0 E G cap len T e0 e1 o W) (i x : Int) : OS w0 E G cap len T e0 e1 (o.set i.toNat x) (W.setCell ⟨G, i.toNat, none⟩ (.int .i64 x)) :=
  ⟨h.below.setCell (p := ⟨G, i.toNat, none⟩) h.hG _, (Kd.R_putg h.row i x).1, (Below.heap_setCell W _ _ E (Ne.symm h.ne)).trans h.arr, h.hG⟩
theorem OS.cell {w0 : World} {E G cap len T : Nat} {e0 e1 : Int} {o : List Int} {W : World} (h : OS w0 E G cap len T e0 e1 o W) (i : Int) (h0 : 0 ≤ i) (h1 : i < (len : Int)) : W.cell? ⟨G, i.toNat, none⟩ = some (.int .i64 (rdOf 0 o i)) ∧ W.frozen? ⟨G, i.toNat, none⟩ = false := Kd.R_celln 0 h.row i h0 h1
theorem OS.end0 {w0 : World} {E G cap len T : Nat} {e0 e1 : Int} {o : List Int} {W : World} (h : OS w0 E G cap len T e0 e1 o W) : W.cell? ⟨E, 0, none⟩ = some (.int .i64 e0) := by simp [World.cell?, h.arr]
theorem OS.end1 {w0 : World} {E G cap len T : Nat} {e0 e1 : Int} {o : List Int} {W : World} (h : OS w0 E G cap len T e0 e1 o W) : W.cell? ⟨E, 1, none⟩ = some (.int .i64 e1) := by simp [World.cell?, h.arr]
theorem OS.drew {w0 : World} {E G cap len T : Nat} {e0 e1 : Int} {o : List Int} {W : World} (h : OS w0 E G cap len T e0 e1 o W) : OS w0 E G cap len T e0 e1 o W.drew := ⟨h.below.drew, Kd.R_drew h.row, h.arr, h.hG⟩
theorem OS.later {w0 : World} {E G cap len T : Nat} {e0 e1 : Int} {o : List Int} {W W' : World} (h : OS w0 E G cap len T e0 e1 o W) (hb : Below W.heap.size W W') : OS w0 E G cap len T e0 e1 o W' :=
  ⟨h.below.trans (hb.mono h.below.size), Kd.R_below h.row hb, (hb.block E (Array.getElem?_eq_some_iff.1 h.arr).1).trans h.arr, h.hG⟩
theorem OS.len {w0 : World} {E G cap len T : Nat} {e0 e1 : Int} {o : List Int} {W : World} (h : OS w0 E G cap len T e0 e1 o W) : o.length = len := (Kd.R_reads' h.row).1.symm
theorem OS.read {w0 : World} {E G cap len T : Nat} {e0 e1 : Int} {o : List Int} {W : World} (h : OS w0 E G cap len T e0 e1 o W) : Kd.C (Kd.int .i64) W (some ⟨G, 0, none⟩) len o := by have := (Kd.R_reads' h.row).2.2; rwa [h.len] at this
theorem OS.start {w0 wp w2 : World} {len T : Nat} {e0 e1 : Int} {o : List Int} {v : Value} (h0 : Below w0.heap.size w0 wp) (hR : Kd.R (Kd.int .i64) 3 w2 (wp.alloc (.cells #[.int .i64 e0, .int .i64 e1] T)).heap.size (fun _ => True) v o) (hb : Below (wp.alloc (.cells #[.int .i64 e0, .int .i64 e1] T)).heap.size (wp.alloc (.cells #[.int .i64 e0, .int .i64 e1] T)) w2) (hl : o.length = len) (hp : 0 < len) :
    ∃ G cap, v = .slice (some ⟨G, 0, none⟩) len cap ∧ len ≤ cap ∧ OS w0 wp.heap.size G cap len T e0 e1 o w2 := by
  have hs : (wp.alloc (.cells #[.int .i64 e0, .int .i64 e1] T)).heap.size = wp.heap.size + 1 := by simp
  obtain ⟨G, cap, rfl, hg, _, _⟩ := Kd.R_form hR (by omega)
  have hc := (Kd.R_reads' hR).2.1
  have h3 := h0.size
  rw [hl] at hR hc ⊢
  refine ⟨G, cap, rfl, hc, (h0.trans ((Below.refl _ wp).alloc h3 _)).trans (hb.mono (by omega)), ?_, (hb.block _ (by omega)).trans (heap_alloc_new _ _), by omega⟩
  exact Kd.R_lower (Kd.R_mono (Kd.R_bound hR) (fun k hk => by have := hk.2.1; omega)) (by omega)
theorem ends_first (a b c d : Int) (w : World) : (Instr.index 113 (.agg #[.int .i64 a, .int .i64 b, .int .i64 c, .int .i64 d]) (.int .i64 0)).run Try.prog w = .ok (.agg #[.int .i64 a, .int .i64 b]) w := by kernel_rfl
theorem ends_second (a b c d : Int) (w : World) : (Instr.index 113 (.agg #[.int .i64 a, .int .i64 b, .int .i64 c, .int .i64 d]) (.int .i64 1)).run Try.prog w = .ok (.agg #[.int .i64 c, .int .i64 d]) w := by kernel_rfl
set_option maxHeartbeats 4000000 in
set_option maxRecDepth 100000 in
theorem shorter_walk (k : Nat) (a0 : Addr) (c0 : Nat) (l0 : List Int) (n len : Nat) (i : Int) (w : World) (hr0 : Kd.C (Kd.int .i64) w (some a0) len l0) (hc0 : len ≤ c0) (hl0 : l0.length = len) (hlen : len = 2 * n) (hn : n ≤ 500) (hi0 : 0 ≤ i) (hi : i + 1 < (n : Int))
    (h1 : rd l0 i = i + 1) (ht : Int) (h2 : plait_diagram_height.f k l0 = some ht) (r : List Int) (h3 : plait_search k l0 n i (wrap64 (ht - 1)) (2 * n) 0 = some r) :
    Calls Try.prog 79 #[.slice (some a0) len c0, .int .i64 i] w fun e w' => ∃ v, e = .returned v ∧ Handed1 w w' v r ∧ Below w.heap.size w w' := by
  have HR0 := Lib.hid hr0
  have HC0 := Lib.hid hc0
  have HL0 := Lib.hid hl0
  have HLN := Lib.hid hlen
  have H2 := Lib.hid h2
  have hcl := plait_diagram_height.calls k (some a0) c0 l0 ht
  rw [hl0] at hcl
  have HCL := Lib.hid hcl
  obtain ⟨ad, e0, hx0⟩ := Kd.at_int hr0 i hi0 (by omega)
  rw [h1] at hx0
  have e0' := Option.some.inj e0
  subst e0'
  have hsz := size_same (some a0) c0 len n
  have HSZ := Lib.hid hsz
  have q1 : i < (len : Int) := by omega
  obtain ⟨want, hwant⟩ : ∃ x, wrap64 (ht - 1) = x := ⟨_, rfl⟩
  rw [hwant] at h3
  have H3 := Lib.hid h3
  clear hr0 hc0 hl0 hlen h1 h2 h3 hsz e0 hcl
  go_enter Try.func79, Try.ntmps79
  go_wp2_with (first | (go_at_call 72; refine (HSZ.out _ HLN.out (by omega)).mono ?_; rintro e w' ⟨rfl, rfl⟩) | (go_at_call 78; refine (HCL.out _ HR0.out HC0.out H2.out).mono ?_; rintro e w' ⟨rfl, ⟨nd, rfl⟩⟩))
  have HB := Lib.hid (pw_below_drewN (Below.refl w.heap.size w) nd)
  obtain ⟨w1, hw1⟩ : ∃ w1, w.drewN nd = w1 := ⟨_, rfl⟩
  rw [hw1] at HB ⊢
  rw [hwant]
  clear hwant hw1 hx0
  go_loopw [30] (fun t w' => ∃ p : Nat, p ≤ 2 * n ∧ t = .int .i64 (p : Int) ∧ Hid (plait_search k l0 n i want (2 * n - p) p = some r) ∧ Hid (Below w.heap.size w w')) (fun t _ => 2 * n - (intOf t).toNat)
  case atStart => exact ⟨0, Nat.zero_le _, rfl, H3, HB⟩
  case round =>
    obtain ⟨p, hp, rfl, HA, HB1⟩ := hrel
    clear H3 HB
    obtain ⟨wo, rfl⟩ : ∃ wo : World, wo = wr := ⟨_, rfl⟩
    by_cases hlt : p < 2 * n
    · have d1 : decide ((p : Int) < 2 * (n : Int)) = true := decide_eq_true (by omega)
      have p1 : (p : Int) < (len : Int) := by have := HLN.out; omega
      obtain ⟨ad, e0, hx0⟩ := Kd.at_int (Kd.C_below HR0.out HB1.out) (p : Int) (by omega) p1
      have e0' := Option.some.inj e0
      subst e0'
      rw [Int.toNat_natCast] at hx0
      have h := HA.out
      rw [show 2 * n - p = (2 * n - (p + 1)) + 1 by omega] at h
      simp only [plait_search] at h
      obtain ⟨q, hq⟩ : ∃ q, rd l0 (p : Int) = q := ⟨_, rfl⟩
      rw [hq] at h hx0
      have HQ := Lib.hid hq
      clear hq e0 HA
      by_cases t1 : (p : Int) = i
      · rw [if_pos (Or.inl t1)] at h
        have HN := Lib.hid h
        have b1 : ((p : Int) == i) = true := beq_iff_eq.2 t1
        clear h t1
        go_wp2
        go_roundw
        case rel => exact ⟨p + 1, by omega, by go_num, HN, HB1⟩
        case measure => simp [intOf] <;> omega
      have b1 : ((p : Int) == i) = false := beq_eq_false_iff_ne.2 t1
      by_cases t2 : (p : Int) = i + 1
      · rw [if_pos (Or.inr (Or.inl t2))] at h
        have HN := Lib.hid h
        have b2 : ((p : Int) == i + 1) = true := beq_iff_eq.2 t2
        clear h t1 t2
        go_wp2
        go_roundw
        case rel => exact ⟨p + 1, by omega, by go_num, HN, HB1⟩
        case measure => simp [intOf] <;> omega
      have b2 : ((p : Int) == i + 1) = false := beq_eq_false_iff_ne.2 t2
      by_cases t3 : q = i
      · rw [if_pos (Or.inr (Or.inr (Or.inl t3)))] at h
        have HN := Lib.hid h
        have b3 : (q == i) = true := beq_iff_eq.2 t3
        clear h t1 t2 t3
        go_wp2
        go_roundw
        case rel => exact ⟨p + 1, by omega, by go_num, HN, HB1⟩
        case measure => simp [intOf] <;> omega
      have b3 : (q == i) = false := beq_eq_false_iff_ne.2 t3
      by_cases t4 : q = i + 1
      · rw [if_pos (Or.inr (Or.inr (Or.inr t4)))] at h
        have HN := Lib.hid h
        have b4 : (q == i + 1) = true := beq_iff_eq.2 t4
        clear h t1 t2 t3 t4
        go_wp2
        go_roundw
        case rel => exact ⟨p + 1, by omega, by go_num, HN, HB1⟩
        case measure => simp [intOf] <;> omega
      have b4 : (q == i + 1) = false := beq_eq_false_iff_ne.2 t4
      rw [if_neg (by omega)] at h
      by_cases t5 : 0 ≤ q ∧ q < (l0.length : Int)
      · rw [if_pos t5] at h
        obtain ⟨R, he, h⟩ := Option.bind_eq_some_iff.1 h
        have HN := Lib.hid h
        have HE := Lib.hid he
        have HT : Hid (((p : Int) ≠ i ∧ (p : Int) ≠ i + 1 ∧ q ≠ i ∧ q ≠ i + 1) ∧ 0 ≤ q ∧ q < (len : Int)) := ⟨⟨t1, t2, t3, t4⟩, t5.1, by have := HL0.out; omega⟩
        clear h he t1 t2 t3 t4 t5
        have hcl2 := plait_diagram_int_89.calls (some a0) c0 l0 l0
        rw [HL0.out] at hcl2
        have hc89 : plait_diagram_int_89.f l0 = some l0 := by
          unfold plait_diagram_int_89.f
          rw [Option.bind_some, if_pos (by have := HL0.out; have := HLN.out; simp; omega), List.nil_append]
        have HCL2 := Lib.hid hcl2
        have HC89 := Lib.hid hc89
        clear hcl2 hc89
        go_wp2
        go_loopw [66] (fun t w' => ∃ j : Nat, j ≤ 2 ∧ t = .int .i64 (j : Int) ∧ Hid (plait_ends k l0 n i want (p : Int) q j = some R) ∧ Hid (Below w.heap.size w w')) (fun t _ => 2 - (intOf t).toNat)
        case atStart => exact ⟨0, by omega, rfl, HE, HB1⟩
        case round =>
          obtain ⟨j, hj, rfl, HE2, HB2⟩ := hrel
          obtain ⟨wp, rfl⟩ : ∃ wp : World, wp = wr := ⟨_, rfl⟩
          clear HE hx0
          rcases (show j = 0 ∨ j = 1 ∨ j = 2 by omega) with rfl | rfl | rfl
          · have ix := ends_first i (i + 1) (i + 1) i
            have he := HE2.out
            simp only [plait_ends] at he
            obtain ⟨r1, ht1, hr1⟩ := Option.bind_eq_some_iff.1 he
            have HT1 := Lib.hid ht1
            have HR1 := Lib.hid hr1
            clear he ht1 hr1 HE2
            go_wp2_with (first | (go_at_call 89; refine (HCL2.out _ (Kd.C_below HR0.out (HB2.out.alloc HB2.out.size _)) HC0.out rfl HC89.out).mono ?_; rintro e w2 ⟨v2, rfl, hR2, hb2⟩; obtain ⟨G, cap, rfl, hcap, hOS⟩ := OS.start HB2.out hR2 hb2 HL0.out (by have := HLN.out; omega); have HOS := Lib.hid hOS; have HCP := Lib.hid hcap; clear hR2 hb2 hOS hcap))
            have i10 : 0 ≤ i + 1 := by omega
            have i11 : i + 1 < (len : Int) := by have := HLN.out; omega
            obtain ⟨hc1, hf1⟩ := HOS.out.cell i hi0 q1
            obtain ⟨hc2, hf2⟩ := (HOS.out.put i (p : Int)).cell (p : Int) (by omega) p1
            have he0 := HOS.out.end0
            have he1 := (HOS.out.put i (p : Int)).end0
            have he2 := ((HOS.out.put i (p : Int)).put (p : Int) i).end0
            rw [Int.toNat_natCast] at hc2 hf2 he2
            go_region_held3 (fun W => W.cell? ⟨wp.heap.size, 0, none⟩ = some (.int .i64 i))
              (first | exact he0 | exact he1 | exact he2)
              (fail)
            have hOS1 := ((HOS.out.put i (p : Int)).put (p : Int) i).drew
            rw [Int.toNat_natCast] at hOS1
            have HOS1 := Lib.hid hOS1
            clear hc1 hf1 hc2 hf2 he0 he1 he2 hOS1 HOS
            obtain ⟨w3, hw3⟩ : ∃ w3, ((w2.setCell ⟨G, i.toNat, none⟩ (.int .i64 (p : Int))).setCell ⟨G, p, none⟩ (.int .i64 i)).drew = w3 := ⟨_, rfl⟩
            go_wp2
            rw [hw3] at HOS1 ⊢
            clear hw3
            have qq := HT.out.2
            obtain ⟨qq0, qq1⟩ := qq
            obtain ⟨hc1, hf1⟩ := HOS1.out.cell (i + 1) i10 i11
            obtain ⟨hc2, hf2⟩ := (HOS1.out.put (i + 1) q).cell q qq0 qq1
            have he0 := HOS1.out.end1
            have he1 := (HOS1.out.put (i + 1) q).end1
            have he2 := ((HOS1.out.put (i + 1) q).put q (i + 1)).end1
            go_region_held3 (fun W => W.cell? ⟨wp.heap.size, 1, none⟩ = some (.int .i64 (i + 1)))
              (first | exact he0 | exact he1 | exact he2)
              (fail)
            have hOS2 := ((HOS1.out.put (i + 1) q).put q (i + 1)).drew
            have ho : (((l0.set i.toNat (p : Int)).set p i).set (i + 1).toNat q).set q.toNat (i + 1) = plait_open l0 (p : Int) q i (i + 1) := by
              unfold plait_open; rw [Int.toNat_natCast]
            rw [ho] at hOS2
            have HOS2 := Lib.hid hOS2
            clear hc1 hf1 hc2 hf2 he0 he1 he2 hOS2 HOS1 ho
            obtain ⟨w4, hw4⟩ : ∃ w4, ((w3.setCell ⟨G, (i + 1).toNat, none⟩ (.int .i64 q)).setCell ⟨G, q.toNat, none⟩ (.int .i64 (i + 1))).drew = w4 := ⟨_, rfl⟩
            rw [hw4] at HOS2
            obtain ⟨o, ho⟩ : ∃ o, plait_open l0 (p : Int) q i (i + 1) = o := ⟨_, rfl⟩
            rw [ho] at HOS2 HT1
            clear ho
            have hol := HOS2.out.len
            have HOL := Lib.hid hol
            go_wp2_with fail
            clear hw4
            have h := HT1.out
            unfold plait_try at h
            obtain ⟨⟨s, ok⟩, ha, h⟩ := Option.bind_eq_some_iff.1 h
            have hcl := plait_diagram_arches.calls k (some ⟨G, 0, none⟩) cap o s ok
            rw [hol] at hcl
            refine (hcl _ HOS2.out.read HCP.out ha).mono ?_
            rintro e w5 ⟨rfl, hb5⟩
            have HOS3 := Lib.hid (HOS2.out.later hb5)
            clear hcl ha hb5 HOS2 HT1 hol
            cases ok with
            | false =>
              simp only [Bool.false_eq_true, if_false] at h
              have h := Option.some.inj h
              subst h
              have HNX : Hid (plait_ends k l0 n i want (p : Int) q 1 = some R) := Lib.hid (by have h_ := HR1.out; rw [if_neg (by simp)] at h_; exact h_)
              clear HR1
              go_wp2
              go_roundw
              case rel => exact ⟨1, by omega, by go_num, HNX, Lib.hid HOS3.out.below⟩
              case measure => simp [intOf] <;> omega
            | true =>
              simp only [if_true] at h
              obtain ⟨hh, hhe, h⟩ := Option.bind_eq_some_iff.1 h
              go_wp2_with fail
              have hcl := plait_diagram_height.calls k (some ⟨G, 0, none⟩) cap o hh
              rw [HOL.out] at hcl
              refine (hcl _ HOS3.out.read HCP.out hhe).mono ?_
              rintro e w6 ⟨rfl, ⟨nd6, hw6⟩⟩
              have hb6 : Below w5.heap.size w5 w6 := by rw [hw6]; exact pw_below_drewN (Below.refl _ _) _
              have HOS4 := Lib.hid (HOS3.out.later hb6)
              clear hb6
              clear hcl hhe HOS3 hw6
              by_cases hw : hh = want
              · rw [if_pos hw] at h
                have bw : (hh != want) = false := bne_eq_false_iff_eq.2 hw
                obtain ⟨hk, hke, h⟩ := Option.bind_eq_some_iff.1 h
                obtain ⟨⟨b1_, b2_⟩, hpe, h⟩ := Option.bind_eq_some_iff.1 h
                have H := Lib.hid h
                clear h hw
                go_wp2_with fail
                clear bw
                refine (plait_hook.calls k (n : Int) i hk _ hke).mono ?_
                rintro e w7 ⟨vk, rfl, hRk, hb7⟩
                have HOS5 := Lib.hid (HOS4.out.later hb7)
                obtain ⟨Ak, ck, rfl⟩ := Kd.R_slice hRk
                obtain ⟨_, hck, hCk⟩ := Kd.R_reads' hRk
                have HCK := Lib.hid hCk
                have HCKC := Lib.hid hck
                clear hke hRk hb7 HOS4 hCk hck
                go_wp2_with fail
                have hcl := plait_diagram_product.calls Ak ck hk (some ⟨G, 0, none⟩) cap o b1_ b2_
                rw [HOL.out] at hcl
                refine (hcl _ HCK.out HCKC.out HOS5.out.read HCP.out hpe).mono ?_
                rintro e w8 ⟨vb, rfl, hRb, hb8⟩
                have HOS6 := Lib.hid (HOS5.out.later hb8)
                obtain ⟨Ab, cb, rfl⟩ := Kd.R_slice hRb
                obtain ⟨_, hcb, hCb⟩ := Kd.R_reads' hRb
                have HCB := Lib.hid hCb
                have HCBC := Lib.hid hcb
                clear hcl hpe hRb hb8 HOS5 hCb hcb HCK HCKC
                by_cases hz : b2_ = 0
                · have h := H.out
                  rw [if_pos hz] at h
                  have bz : (b2_ == 0) = true := beq_iff_eq.2 hz
                  obtain ⟨eq, hee, h⟩ := Option.bind_eq_some_iff.1 h
                  have H' := Lib.hid h
                  clear h hz H
                  go_wp2_with fail
                  clear bz
                  have hcl := plait_diagram_int_69.calls k Ab cb b1_ (some a0) c0 l0 eq
                  rw [HL0.out] at hcl
                  refine (hcl _ HCB.out HCBC.out (Kd.C_below HR0.out HOS6.out.below) HC0.out hee).mono ?_
                  rintro e w9 ⟨rfl, ⟨nd9, hw9⟩⟩
                  have hb9 : Below w8.heap.size w8 w9 := by rw [hw9]; exact pw_below_drewN (Below.refl _ _) _
                  have HOS7 := Lib.hid (HOS6.out.later hb9)
                  clear hb9
                  clear hcl hee HOS6 hw9 HCB HCBC
                  cases eq with
                  | false =>
                    have h := H'.out
                    simp only [Bool.false_eq_true, if_false] at h
                    have h := Option.some.inj h
                    subst h
                    have HNX : Hid (plait_ends k l0 n i want (p : Int) q 1 = some R) := Lib.hid (by have h_ := HR1.out; rw [if_neg (by simp)] at h_; exact h_)
                    clear HR1
                    go_wp2
                    go_roundw
                    case rel => exact ⟨1, by omega, by go_num, HNX, Lib.hid HOS7.out.below⟩
                    case measure => simp [intOf] <;> omega
                  | true =>
                    have h := H'.out
                    simp only [if_true] at h
                    have h := Option.some.inj h
                    subst h
                    have hR := HR1.out
                    rw [if_pos (show (some o).isSome = true from rfl)] at hR
                    have hR := Option.some.inj hR
                    subst hR
                    have hr := HN.out
                    rw [if_pos (show (some o).isSome = true from rfl)] at hr
                    have hr := Option.some.inj hr
                    simp only [Option.getD_some] at hr
                    subst hr
                    clear hR HR1 HN H'
                    go_wp2
                    go_ret
                    exact ⟨_, rfl, .inr ⟨fun e_ => by have h1_ := HOL.out; rw [e_] at h1_; have h2_ := HLN.out; simp at h1_; omega, Kd.R_mono HOS7.out.row (fun _ _ => trivial)⟩, HOS7.out.below⟩
                · have h := H.out
                  rw [if_neg hz] at h
                  have bz : (b2_ == 0) = false := beq_eq_false_iff_ne.2 hz
                  have h := Option.some.inj h
                  subst h
                  clear hz H
                  have HNX : Hid (plait_ends k l0 n i want (p : Int) q 1 = some R) := Lib.hid (by have h_ := HR1.out; rw [if_neg (by simp)] at h_; exact h_)
                  clear HR1
                  go_wp2
                  go_roundw
                  case rel => exact ⟨1, by omega, by go_num, HNX, Lib.hid HOS6.out.below⟩
                  case measure => simp [intOf] <;> omega
              · rw [if_neg hw] at h
                have bw : (hh != want) = true := bne_iff_ne.2 hw
                have h := Option.some.inj h
                subst h
                clear hw
                have HNX : Hid (plait_ends k l0 n i want (p : Int) q 1 = some R) := Lib.hid (by have h_ := HR1.out; rw [if_neg (by simp)] at h_; exact h_)
                clear HR1
                go_wp2
                go_roundw
                case rel => exact ⟨1, by omega, by go_num, HNX, Lib.hid HOS4.out.below⟩
                case measure => simp [intOf] <;> omega
          · have ix := ends_second i (i + 1) (i + 1) i
            have he := HE2.out
            simp only [plait_ends] at he
            obtain ⟨r1, ht1, hr1⟩ := Option.bind_eq_some_iff.1 he
            have HT1 := Lib.hid ht1
            have HR1 := Lib.hid hr1
            clear he ht1 hr1 HE2
            go_wp2_with (first | (go_at_call 89; refine (HCL2.out _ (Kd.C_below HR0.out (HB2.out.alloc HB2.out.size _)) HC0.out rfl HC89.out).mono ?_; rintro e w2 ⟨v2, rfl, hR2, hb2⟩; obtain ⟨G, cap, rfl, hcap, hOS⟩ := OS.start HB2.out hR2 hb2 HL0.out (by have := HLN.out; omega); have HOS := Lib.hid hOS; have HCP := Lib.hid hcap; clear hR2 hb2 hOS hcap))
            have i10 : 0 ≤ i + 1 := by omega
            have i11 : i + 1 < (len : Int) := by have := HLN.out; omega
            obtain ⟨hc1, hf1⟩ := HOS.out.cell (i + 1) i10 i11
            obtain ⟨hc2, hf2⟩ := (HOS.out.put (i + 1) (p : Int)).cell (p : Int) (by omega) p1
            have he0 := HOS.out.end0
            have he1 := (HOS.out.put (i + 1) (p : Int)).end0
            have he2 := ((HOS.out.put (i + 1) (p : Int)).put (p : Int) (i + 1)).end0
            rw [Int.toNat_natCast] at hc2 hf2 he2
            go_region_held3 (fun W => W.cell? ⟨wp.heap.size, 0, none⟩ = some (.int .i64 (i + 1)))
              (first | exact he0 | exact he1 | exact he2)
              (fail)
            have hOS1 := ((HOS.out.put (i + 1) (p : Int)).put (p : Int) (i + 1)).drew
            rw [Int.toNat_natCast] at hOS1
            have HOS1 := Lib.hid hOS1
            clear hc1 hf1 hc2 hf2 he0 he1 he2 hOS1 HOS
            obtain ⟨w3, hw3⟩ : ∃ w3, ((w2.setCell ⟨G, (i + 1).toNat, none⟩ (.int .i64 (p : Int))).setCell ⟨G, p, none⟩ (.int .i64 (i + 1))).drew = w3 := ⟨_, rfl⟩
            go_wp2
            rw [hw3] at HOS1 ⊢
            clear hw3
            have qq := HT.out.2
            obtain ⟨qq0, qq1⟩ := qq
            obtain ⟨hc1, hf1⟩ := HOS1.out.cell i hi0 q1
            obtain ⟨hc2, hf2⟩ := (HOS1.out.put i q).cell q qq0 qq1
            have he0 := HOS1.out.end1
            have he1 := (HOS1.out.put i q).end1
            have he2 := ((HOS1.out.put i q).put q i).end1
            go_region_held3 (fun W => W.cell? ⟨wp.heap.size, 1, none⟩ = some (.int .i64 i))
              (first | exact he0 | exact he1 | exact he2)
              (fail)
            have hOS2 := ((HOS1.out.put i q).put q i).drew
            have ho : (((l0.set (i + 1).toNat (p : Int)).set p (i + 1)).set i.toNat q).set q.toNat i = plait_open l0 (p : Int) q (i + 1) i := by
              unfold plait_open; rw [Int.toNat_natCast]
            rw [ho] at hOS2
            have HOS2 := Lib.hid hOS2
            clear hc1 hf1 hc2 hf2 he0 he1 he2 hOS2 HOS1 ho
            obtain ⟨w4, hw4⟩ : ∃ w4, ((w3.setCell ⟨G, i.toNat, none⟩ (.int .i64 q)).setCell ⟨G, q.toNat, none⟩ (.int .i64 i)).drew = w4 := ⟨_, rfl⟩
            rw [hw4] at HOS2
            obtain ⟨o, ho⟩ : ∃ o, plait_open l0 (p : Int) q (i + 1) i = o := ⟨_, rfl⟩
            rw [ho] at HOS2 HT1
            clear ho
            have hol := HOS2.out.len
            have HOL := Lib.hid hol
            go_wp2_with fail
            clear hw4
            have h := HT1.out
            unfold plait_try at h
            obtain ⟨⟨s, ok⟩, ha, h⟩ := Option.bind_eq_some_iff.1 h
            have hcl := plait_diagram_arches.calls k (some ⟨G, 0, none⟩) cap o s ok
            rw [hol] at hcl
            refine (hcl _ HOS2.out.read HCP.out ha).mono ?_
            rintro e w5 ⟨rfl, hb5⟩
            have HOS3 := Lib.hid (HOS2.out.later hb5)
            clear hcl ha hb5 HOS2 HT1 hol
            cases ok with
            | false =>
              simp only [Bool.false_eq_true, if_false] at h
              have h := Option.some.inj h
              subst h
              have HNX : Hid (plait_ends k l0 n i want (p : Int) q 2 = some R) := Lib.hid (by have h_ := HR1.out; exact h_)
              clear HR1
              go_wp2
              go_roundw
              case rel => exact ⟨2, by omega, by go_num, HNX, Lib.hid HOS3.out.below⟩
              case measure => simp [intOf] <;> omega
            | true =>
              simp only [if_true] at h
              obtain ⟨hh, hhe, h⟩ := Option.bind_eq_some_iff.1 h
              go_wp2_with fail
              have hcl := plait_diagram_height.calls k (some ⟨G, 0, none⟩) cap o hh
              rw [HOL.out] at hcl
              refine (hcl _ HOS3.out.read HCP.out hhe).mono ?_
              rintro e w6 ⟨rfl, ⟨nd6, hw6⟩⟩
              have hb6 : Below w5.heap.size w5 w6 := by rw [hw6]; exact pw_below_drewN (Below.refl _ _) _
              have HOS4 := Lib.hid (HOS3.out.later hb6)
              clear hb6
              clear hcl hhe HOS3 hw6
              by_cases hw : hh = want
              · rw [if_pos hw] at h
                have bw : (hh != want) = false := bne_eq_false_iff_eq.2 hw
                obtain ⟨hk, hke, h⟩ := Option.bind_eq_some_iff.1 h
                obtain ⟨⟨b1_, b2_⟩, hpe, h⟩ := Option.bind_eq_some_iff.1 h
                have H := Lib.hid h
                clear h hw
                go_wp2_with fail
                clear bw
                refine (plait_hook.calls k (n : Int) i hk _ hke).mono ?_
                rintro e w7 ⟨vk, rfl, hRk, hb7⟩
                have HOS5 := Lib.hid (HOS4.out.later hb7)
                obtain ⟨Ak, ck, rfl⟩ := Kd.R_slice hRk
                obtain ⟨_, hck, hCk⟩ := Kd.R_reads' hRk
                have HCK := Lib.hid hCk
                have HCKC := Lib.hid hck
                clear hke hRk hb7 HOS4 hCk hck
                go_wp2_with fail
                have hcl := plait_diagram_product.calls Ak ck hk (some ⟨G, 0, none⟩) cap o b1_ b2_
                rw [HOL.out] at hcl
                refine (hcl _ HCK.out HCKC.out HOS5.out.read HCP.out hpe).mono ?_
                rintro e w8 ⟨vb, rfl, hRb, hb8⟩
                have HOS6 := Lib.hid (HOS5.out.later hb8)
                obtain ⟨Ab, cb, rfl⟩ := Kd.R_slice hRb
                obtain ⟨_, hcb, hCb⟩ := Kd.R_reads' hRb
                have HCB := Lib.hid hCb
                have HCBC := Lib.hid hcb
                clear hcl hpe hRb hb8 HOS5 hCb hcb HCK HCKC
                by_cases hz : b2_ = 0
                · have h := H.out
                  rw [if_pos hz] at h
                  have bz : (b2_ == 0) = true := beq_iff_eq.2 hz
                  obtain ⟨eq, hee, h⟩ := Option.bind_eq_some_iff.1 h
                  have H' := Lib.hid h
                  clear h hz H
                  go_wp2_with fail
                  clear bz
                  have hcl := plait_diagram_int_69.calls k Ab cb b1_ (some a0) c0 l0 eq
                  rw [HL0.out] at hcl
                  refine (hcl _ HCB.out HCBC.out (Kd.C_below HR0.out HOS6.out.below) HC0.out hee).mono ?_
                  rintro e w9 ⟨rfl, ⟨nd9, hw9⟩⟩
                  have hb9 : Below w8.heap.size w8 w9 := by rw [hw9]; exact pw_below_drewN (Below.refl _ _) _
                  have HOS7 := Lib.hid (HOS6.out.later hb9)
                  clear hb9
                  clear hcl hee HOS6 hw9 HCB HCBC
                  cases eq with
                  | false =>
                    have h := H'.out
                    simp only [Bool.false_eq_true, if_false] at h
                    have h := Option.some.inj h
                    subst h
                    have HNX : Hid (plait_ends k l0 n i want (p : Int) q 2 = some R) := Lib.hid (by have h_ := HR1.out; exact h_)
                    clear HR1
                    go_wp2
                    go_roundw
                    case rel => exact ⟨2, by omega, by go_num, HNX, Lib.hid HOS7.out.below⟩
                    case measure => simp [intOf] <;> omega
                  | true =>
                    have h := H'.out
                    simp only [if_true] at h
                    have h := Option.some.inj h
                    subst h
                    have hR := HR1.out
                    have hR := Option.some.inj hR
                    subst hR
                    have hr := HN.out
                    rw [if_pos (show (some o).isSome = true from rfl)] at hr
                    have hr := Option.some.inj hr
                    simp only [Option.getD_some] at hr
                    subst hr
                    clear hR HR1 HN H'
                    go_wp2
                    go_ret
                    exact ⟨_, rfl, .inr ⟨fun e_ => by have h1_ := HOL.out; rw [e_] at h1_; have h2_ := HLN.out; simp at h1_; omega, Kd.R_mono HOS7.out.row (fun _ _ => trivial)⟩, HOS7.out.below⟩
                · have h := H.out
                  rw [if_neg hz] at h
                  have bz : (b2_ == 0) = false := beq_eq_false_iff_ne.2 hz
                  have h := Option.some.inj h
                  subst h
                  clear hz H
                  have HNX : Hid (plait_ends k l0 n i want (p : Int) q 2 = some R) := Lib.hid (by have h_ := HR1.out; exact h_)
                  clear HR1
                  go_wp2
                  go_roundw
                  case rel => exact ⟨2, by omega, by go_num, HNX, Lib.hid HOS6.out.below⟩
                  case measure => simp [intOf] <;> omega
              · rw [if_neg hw] at h
                have bw : (hh != want) = true := bne_iff_ne.2 hw
                have h := Option.some.inj h
                subst h
                clear hw
                have HNX : Hid (plait_ends k l0 n i want (p : Int) q 2 = some R) := Lib.hid (by have h_ := HR1.out; exact h_)
                clear HR1
                go_wp2
                go_roundw
                case rel => exact ⟨2, by omega, by go_num, HNX, Lib.hid HOS4.out.below⟩
                case measure => simp [intOf] <;> omega
          · have he := HE2.out
            simp only [plait_ends] at he
            have he := Option.some.inj he
            subst he
            have hr := HN.out
            rw [if_neg (by simp)] at hr
            have HN2 := Lib.hid hr
            clear hr HE2 HN
            go_wp2
            go_roundw
            case rel => exact ⟨p + 1, by omega, by go_num, HN2, HB2⟩
            case measure => simp [intOf] <;> omega
      · rw [if_neg t5] at h
        cases h
    · obtain rfl : p = 2 * n := by omega
      have d1 : decide (((2 * n : Nat) : Int) < 2 * (n : Int)) = false := decide_eq_false (by omega)
      have h := HA.out
      rw [Nat.sub_self] at h
      simp only [plait_search] at h
      have h := Option.some.inj h
      subst h
      clear HA
      go_wp2
      go_ret
      exact ⟨_, rfl, .inl ⟨rfl, rfl⟩, HB1.out⟩
set_option maxHeartbeats 1000000 in
theorem shorter_nil (a0 : Addr) (c0 : Nat) (l0 : List Int) (n len : Nat) (i : Int) (w : World) (hr0 : Kd.C (Kd.int .i64) w (some a0) len l0) (hlen : len = 2 * n) (hn : n ≤ 500) (hi0 : 0 ≤ i) (hi : i + 1 < (n : Int)) (h1 : rd l0 i ≠ i + 1) :
    Calls Try.prog 79 #[.slice (some a0) len c0, .int .i64 i] w fun e w' => e = .returned (.slice none 0 0) ∧ w = w' := by
  have HLN := Lib.hid hlen
  obtain ⟨ad, e0, hx0⟩ := Kd.at_int hr0 i hi0 (by omega)
  have e0' := Option.some.inj e0
  subst e0'
  have hsz := size_same (some a0) c0 len n
  have HSZ := Lib.hid hsz
  have q1 : i < (len : Int) := by omega
  obtain ⟨x, hx⟩ : ∃ x, rd l0 i = x := ⟨_, rfl⟩
  rw [hx] at hx0 h1
  have b1 : (x != i + 1) = true := bne_iff_ne.2 h1
  clear hr0 hlen h1 hsz e0 hx
  go_enter Try.func79, Try.ntmps79
  go_wp2_with (first | (go_at_call 72; refine (HSZ.out _ HLN.out (by omega)).mono ?_; rintro e w' ⟨rfl, rfl⟩))
  go_ret
  exact ⟨rfl, rfl⟩
/-- shorter, whole -/
theorem shorter_any (k : Nat) (A0 : Option Addr) (c0 : Nat) (l0 : List Int) (i : Int) (r : List Int) (w : World) (hr0 : Kd.C (Kd.int .i64) w A0 l0.length l0) (hc0 : l0.length ≤ c0) (h : plait_short k l0 i = some r) :
    Calls Try.prog 79 #[.slice A0 l0.length c0, .int .i64 i] w fun e w' => ∃ v, e = .returned v ∧ Handed1 w w' v r ∧ Below w.heap.size w w' := by
  unfold plait_short at h
  by_cases c : l0.length = 2 * (l0.length / 2) ∧ l0.length ≤ 1000 ∧ 0 ≤ i ∧ i + 1 < ((l0.length / 2 : Nat) : Int)
  · rw [if_pos c] at h
    obtain ⟨g1, g2, g3, g4⟩ := c
    obtain ⟨a0, rfl, _⟩ := hr0.2.2 (by omega)
    by_cases c2 : rd l0 i = i + 1
    · rw [if_pos c2] at h
      obtain ⟨ht, h1, h2⟩ := Option.bind_eq_some_iff.1 h
      exact shorter_walk k a0 c0 l0 (l0.length / 2) l0.length i w hr0 hc0 rfl g1 (by omega) g3 g4 c2 ht h1 r h2
    · rw [if_neg c2] at h
      have h := Option.some.inj h
      subst h
      refine (shorter_nil a0 c0 l0 (l0.length / 2) l0.length i w hr0 g1 (by omega) g3 g4 c2).mono ?_
      rintro e w' ⟨rfl, rfl⟩
      exact ⟨_, rfl, .inl ⟨rfl, rfl⟩, Below.refl _ _⟩
  · rw [if_neg c] at h
    cases h
end Go.Proofs.Ytjfkompfkgjdaaa.PC
end
section
/- word: the walk. -/
namespace Go.Proofs.Ytjfkompfkgjdaaa.PC
open Go.RowKit Go.Proofs.YtjfkompfkgjdaaaW.PrintWords Go.Proofs.YtjfkompfkgjdaaaW.PrintLast Go.Proofs.YtjfkompfkgjdaaaW.PrintMore
/-- the diagram at hand (one that came in, or one of the call's own) and the word up to now -/
structure WS (w0 : World) (v3 : Value) (A : Option Addr) (c : Nat) (dl outl : List Int) (W : World) : Prop where
  below : Below w0.heap.size w0 W
  cap : dl.length ≤ c
  row : Kd.R (Kd.int .i64) 3 W w0.heap.size (fun _ => True) v3 outl
  d : Kd.C (Kd.int .i64) w0 A dl.length dl ∨ Kd.R (Kd.int .i64) 3 W w0.heap.size (fun k => some k ≠ v3.ownBlock) (.slice A dl.length c) dl
theorem WS.read {w0 : World} {v3 : Value} {A : Option Addr} {c : Nat} {dl outl : List Int} {W : World} (h : WS w0 v3 A c dl outl W) : Kd.C (Kd.int .i64) W A dl.length dl := by
  rcases h.d with g | g
  · exact Kd.C_below g h.below
  · exact (Kd.R_reads' g).2.2
theorem WS.later {w0 : World} {v3 : Value} {A : Option Addr} {c : Nat} {dl outl : List Int} {W W' : World} (h : WS w0 v3 A c dl outl W) (hb : Below W.heap.size W W') : WS w0 v3 A c dl outl W' :=
  ⟨h.below.trans (hb.mono h.below.size), h.cap, Kd.R_below h.row hb, h.d.imp id fun g => Kd.R_below g hb⟩
/-- the next diagram: what shorter has handed back -/
theorem WS.next {w0 : World} {v3 v1 : Value} {A : Option Addr} {c : Nat} {dl outl : List Int} {W W' w1 : World} {x : Int} {o : List Int} {G cap : Nat} (h : WS w0 v3 A c dl outl W) (hb : Below W.heap.size W W') (hR : Kd.R (Kd.int .i64) 3 W' W.heap.size (fun _ => True) (.slice (some ⟨G, 0, none⟩) o.length cap) o) (hcap : o.length ≤ cap)
    (hrow : Kd.R (Kd.int .i64) 3 w1 w0.heap.size (fun _ => True) v1 (outl ++ [x])) (hb1 : Below w0.heap.size w0 w1) (hg : W'.grownBy w1 v3.ownBlock) (hat : v1.ownBlock = v3.ownBlock ∨ ∃ b, v1.ownBlock = some b ∧ W'.heap.size ≤ b) : WS w0 v1 (some ⟨G, 0, none⟩) cap o (outl ++ [x]) w1 := by
  have hlt := Kd.R_lt h.row
  have hs := h.below.size
  have h1 : ∀ k, W.heap.size ≤ k → some k ≠ v3.ownBlock := fun k hk e => by have := hlt k e.symm; omega
  refine ⟨hb1, hcap, hrow, .inr ?_⟩
  have hR2 := Kd.R_mono (Kd.R_bound hR) (ok' := fun k => W.heap.size ≤ k ∧ k < W'.heap.size) (fun k hk => ⟨hk.2.1, hk.2.2.1⟩)
  have hR3 := Kd.R_grown hR2 hg (fun k hk => h1 k hk.1)
  refine Kd.R_lower (Kd.R_mono hR3 (fun k hk => ?_)) hs
  rcases hat with e | ⟨b, e, hb2⟩
  · rw [e]; exact h1 k hk.1
  · rw [e]; intro e2; have := Option.some.inj e2; have := hk.2; omega
set_option maxHeartbeats 4000000 in
set_option maxRecDepth 100000 in
theorem word_walk (k : Nat) (A0 : Option Addr) (c0 : Nat) (l0 : List Int) (w : World) (hr0 : Kd.C (Kd.int .i64) w A0 l0.length l0) (hc0 : l0.length ≤ c0) (r : List Int) (h : plait_wordGo k 1000 l0 [] = some r) :
    Calls Try.prog 55 #[.slice A0 l0.length c0] w fun e w' => ∃ v0_ : Value, e = .returned v0_ ∧ Kd.R (Kd.int .i64) 3 w' w.heap.size (fun _ => True) v0_ r ∧ Below w.heap.size w w' := by
  have HR := Lib.hid hr0
  have HC := Lib.hid hc0
  have H := Lib.hid h
  have hnn := fun (W : World) => run_neq_slice_nil_any (P := Try.prog) W 65 3 none 0 0 0 0 Try.underlying65
  have hns := fun (W : World) (a : Addr) (n c : Nat) => run_neq_slice_nil_any (P := Try.prog) W 65 3 (some a) n c 0 0 Try.underlying65
  simp only [Option.isNone_none, Option.isNone_some, Bool.not_true, Bool.not_false] at hnn hns
  clear hr0 hc0 h
  go_enter Try.func55, Try.ntmps55
  go_wp2
  go_loopg [0, 3] 1000 (fun kq v0 v3 W => ∃ (A : Option Addr) (c : Nat) (dl outl : List Int), v0 = .slice A dl.length c ∧ Hid (plait_wordGo k kq dl outl = some r) ∧ Hid (kq ≤ 1000 ∧ outl.length + kq ≤ 1000) ∧ Hid (WS w v3 A c dl outl W))
  case atStart => exact ⟨A0, c0, l0, [], rfl, H, ⟨Nat.le_refl _, by simp⟩, ⟨Below.refl _ _, HC.out, Kd.R_nil _ _ _ _ _, .inl HR.out⟩⟩
  case round =>
    obtain ⟨A, c, dl, outl, rfl, HA, HK, HS⟩ := hrel
    clear H
    cases gk with
    | zero => exact absurd HA.out (by simp [plait_wordGo])
    | succ k1 =>
      obtain ⟨wo, rfl⟩ : ∃ wo : World, wo = wr := ⟨_, rfl⟩
      have h := HA.out
      clear HA
      simp only [plait_wordGo] at h
      by_cases c1 : dl.length = 2 * (dl.length / 2) ∧ dl.length ≤ 1000 ∧ 0 < dl.length
      · rw [if_pos c1] at h
        obtain ⟨g1, g2, g3⟩ := c1
        obtain ⟨hh, h1, h⟩ := Option.bind_eq_some_iff.1 h
        have hcl := plait_diagram_height.calls k A c dl hh
        obtain ⟨n, hn⟩ : ∃ n, dl.length / 2 = n := ⟨_, rfl⟩
        obtain ⟨len, hlen⟩ : ∃ len, dl.length = len := ⟨_, rfl⟩
        have hrd := HS.out.read
        have hcp := HS.out.cap
        rw [hn, hlen] at g1
        rw [hlen] at g2 g3 hcl hrd hcp
        rw [hn] at h
        have hn5 : n ≤ 500 := by omega
        have hn1 : 1 ≤ n := by omega
        have HLN := Lib.hid hlen
        have HG := Lib.hid g1
        clear hn g1
        by_cases hz : hh > 0
        · rw [if_pos hz] at h
          have d1 : decide (0 < hh) = true := decide_eq_true hz
          obtain ⟨R, h2, h⟩ := Option.bind_eq_some_iff.1 h
          have HN := Lib.hid h
          have HP := Lib.hid h2
          have hsz := size_same A c len n
          have HSZ := Lib.hid hsz
          clear h h2 hz hsz
          rw [HLN.out]
          clear hlen
          go_wp2_with fail
          refine (hcl _ hrd hcp h1).mono ?_
          rintro e w2 ⟨rfl, ⟨nd, hw2⟩⟩
          have HS2 := Lib.hid (HS.out.later (W' := w2) (by rw [hw2]; exact pw_below_drewN (Below.refl _ _) _))
          clear hcl hrd h1 hw2 HS
          go_wp2_with (first | (go_at_call 72; refine (HSZ.out _ HG.out (by omega)).mono ?_; rintro e w' ⟨rfl, rfl⟩))
          go_loopw [0, 3, 12] (fun s0 s3 t W => ∃ i : Nat, i ≤ n - 1 ∧ s0 = .slice A len c ∧ s3 = u3 ∧ t = .int .i64 (i : Int) ∧ Hid (plait_pick k dl (n - 1 - i) i = some R) ∧ Hid (WS w u3 A c dl outl W)) (fun _ _ t _ => n - (intOf t).toNat)
          case atStart => exact ⟨0, Nat.zero_le _, rfl, rfl, rfl, HP, HS2⟩
          case round =>
            obtain ⟨i, hi, rfl, rfl, rfl, HP2, HS3⟩ := hrel
            obtain ⟨wp, rfl⟩ : ∃ wp : World, wp = wr := ⟨_, rfl⟩
            clear HP HS2
            by_cases hlt : i < n - 1
            · have d2 : decide ((i : Int) < (n : Int) - 1) = true := decide_eq_true (by omega)
              have h := HP2.out
              rw [show n - 1 - i = (n - 1 - (i + 1)) + 1 by omega] at h
              simp only [plait_pick] at h
              obtain ⟨o, h3, h⟩ := Option.bind_eq_some_iff.1 h
              have hcl := shorter_any k A c dl (i : Int) o
              have hrd := HS3.out.read
              rw [HLN.out] at hcl hrd
              have HH := Lib.hid h
              clear h HP2
              go_wp2_with fail
              refine (hcl _ hrd hcp h3).mono ?_
              rintro e w3 ⟨v5, rfl, hH, hb3⟩
              clear hcl hrd h3
              rcases hH with ⟨ho, rfl⟩ | ⟨ho, hR3⟩
              · have h := HH.out
                rw [if_pos ho] at h
                have HP3 := Lib.hid h
                have HS4 := Lib.hid (HS3.out.later hb3)
                clear h HH HS3 hb3
                go_wp2
                go_roundw
                case rel => exact ⟨i + 1, by omega, rfl, rfl, by go_num, HP3, HS4⟩
                case measure => simp [intOf] <;> omega
              · have h := HH.out
                rw [if_neg ho] at h
                have h := Option.some.inj h
                subst h
                have hol : 0 < o.length := List.length_pos_iff.2 ho
                obtain ⟨G, cap, rfl, _, _, _⟩ := Kd.R_form hR3 hol
                have hcap := (Kd.R_reads' hR3).2.1
                have h := HN.out
                rw [if_pos (show (some (i, o)).isSome = true from rfl)] at h
                simp only [Option.getD_some] at h
                have HN2 := Lib.hid h
                have HR3 := Lib.hid hR3
                have HB3 := Lib.hid hb3
                have HCAP := Lib.hid hcap
                have HS4 := Lib.hid (HS3.out.later hb3)
                have hns2 := fun (W : World) => hns W ⟨G, 0, none⟩ o.length cap
                clear h hR3 hb3 hcap HH HN ho hol
                go_wp2_with (first | ((with_reducible refine gate_builtin (b := .append) (xs := #[.tmp 20, .tmp 22]) rfl ?_); at_builtin; refine Kd.R_append (Kd.int .i64) (w0 := w) w.heap.size rfl (.tmp 20) (.tmp 22) 22 3 (.int .i64 0) 8 rfl Try.underlying22 info3 rfl (by decide) (by omega) u3 outl (i : Int) [.int .i64 (i : Int)] (fun _ => True) (fun _ => False) rfl rfl rfl (fun _ hk => hk.elim) (fun _ _ => trivial) HS4.out.row HS4.out.below HS4.out.below.size (by have := HK.out; omega) ?_; intro v1 w4 ho4 hb4 hg4 hat4; have HS5 := Lib.hid (HS3.out.next HB3.out HR3.out HCAP.out ho4 hb4 hg4 hat4); clear ho4 hb4 hg4 hat4))
                go_roundg k1
                case measure => have := HK.out; omega
                case rel => exact ⟨_, _, _, _, rfl, HN2, Lib.hid ⟨by have := HK.out; omega, by have := HK.out; simp; omega⟩, HS5⟩
            · obtain rfl : i = n - 1 := by omega
              have h := HP2.out
              rw [Nat.sub_self] at h
              simp only [plait_pick] at h
              have h := Option.some.inj h
              subst h
              have h := HN.out
              simp at h
        · rw [if_neg hz] at h
          have d1 : decide (0 < hh) = false := decide_eq_false hz
          have h := Option.some.inj h
          subst h
          clear hz
          rw [HLN.out]
          clear hlen
          go_wp2_with fail
          refine (hcl _ hrd hcp h1).mono ?_
          rintro e w2 ⟨rfl, ⟨nd, hw2⟩⟩
          have HS2 := Lib.hid (HS.out.later (W' := w2) (by rw [hw2]; exact pw_below_drewN (Below.refl _ _) _))
          clear hcl hrd h1 hw2 HS
          go_wp2
          go_ret
          exact ⟨_, rfl, HS2.out.row, HS2.out.below⟩
      · rw [if_neg c1] at h
        cases h
end Go.Proofs.Ytjfkompfkgjdaaa.PC
end
section
namespace Go.Proofs.Ytjfkompfkgjdaaa.PC
open Go.RowKit Go.Proofs.YtjfkompfkgjdaaaW.PrintWords Go.Proofs.YtjfkompfkgjdaaaW.PrintLast Go.Proofs.YtjfkompfkgjdaaaW.PrintMore
attribute [local go_sem] max2_int min2_int max_two min_two max_three min_three max_four min_four   -- for this text's walks alone
set_option linter.unusedVariables false
set_option linter.unusedSimpArgs false
/-! ### plait_diagram_word: function 55 -/
/-- the first shortest word, by the program -/
def plait_diagram_word.f (k : Nat) (l0 : List Int) : Option (List Int) := plait_wordGo k 1000 l0 []
theorem plait_diagram_word.mono : ∀ a0 k, LeO (plait_diagram_word.f k a0) (plait_diagram_word.f (k + 1) a0) := fun _ k => plait_wordGo_mono k _ _ _
theorem plait_diagram_word.calls (k : Nat) (A0 : Option Addr) (c0 : Nat) (l0 : List Int) (r : List Int) (w : World) (hr0 : Kd.C (Kd.int .i64) w A0 l0.length l0) (hc0 : l0.length ≤ c0) (h : plait_diagram_word.f k l0 = some r) :
  Calls Try.prog 55 #[.slice A0 l0.length c0] w fun e w' => ∃ v0_ : Value, e = .returned (v0_) ∧ Kd.R (Kd.int .i64) 3 w' w.heap.size (fun _ => True) v0_ r ∧ Below w.heap.size w w' := word_walk k A0 c0 l0 w hr0 hc0 r h
end Go.Proofs.Ytjfkompfkgjdaaa.PC
end
section
namespace Go.Proofs.Ytjfkompfkgjdaaa.PC
open Go.RowKit Go.Proofs.YtjfkompfkgjdaaaW.PrintWords Go.Proofs.YtjfkompfkgjdaaaW.PrintLast Go.Proofs.YtjfkompfkgjdaaaW.PrintMore
attribute [local go_sem] max2_int min2_int max_two min_two max_three min_three max_four min_four   -- for this text's walks alone
set_option linter.unusedVariables false
set_option linter.unusedSimpArgs false
/-! ### plait_Word: function 21 -/
attribute [local go_sem] plait_of.val0
def plait_Word.f (k : Nat) (l0 : List Int) : Option (List Int × Int) := (plait_of.f k l0).bind fun t174 => (if t174 = 0 then ((plait_diagram_word.f k l0).bind fun t175 => (some (t175, 0))) else (some (([] : List Int), t174)))
theorem plait_Word.mono : ∀ a0 k, LeO (plait_Word.f k a0) (plait_Word.f (k + 1) a0) := by
 intro a0 k
 unfold plait_Word.f
 repeat' first
   | (with_reducible exact plait_diagram_word.mono _ _)
   | (with_reducible exact plait_of.mono _ _)
   | (with_reducible exact LeO.refl _)
   | (with_reducible exact LeO.none _)
   | (with_reducible refine LeO.ite ?_ ?_)
   | (with_reducible refine LeO.bind ?_ (fun _ => ?_))
   | exact plait_diagram_word.mono _ _
   | exact plait_of.mono _ _
   | exact LeO.none _
   | refine LeO.ite ?_ ?_
   | refine LeO.bind ?_ (fun _ => ?_)
set_option maxHeartbeats 8000000 in
set_option maxRecDepth 100000 in
theorem plait_Word.calls (k : Nat) (A0 : Option Addr) (c0 : Nat) (l0 : List Int) (r1 : List Int) (r2 : Int) (w : World) (hr0 : Kd.C (Kd.int .i64) w A0 l0.length l0) (hc0 : l0.length ≤ c0) (h : plait_Word.f k l0 = some (r1, r2)) :
  Calls Try.prog 21 #[.slice A0 l0.length c0] w fun e w' => ∃ v0_ : Value, e = .returned (.tuple #[v0_, .int .i64 r2]) ∧ Kd.R (Kd.int .i64) 3 w' w.heap.size (fun _ => True) v0_ r1 ∧ Below w.heap.size w w' := by
 have HR0 := Aside0.mk hr0
 have HC0 := Aside0.mk hc0
 clear hr0 hc0
 have HB := Aside0.mk (Below.refl w.heap.size w)
 have H : ((plait_of.f k l0).bind fun t174 => (if t174 = 0 then ((plait_diagram_word.f k l0).bind fun t175 => (some (t175, 0))) else (some (([] : List Int), t174)))) = some (r1, r2) := h
 clear h
 replace H := Option.bind_eq_some_iff.mp H
 obtain ⟨t174, A20, H⟩ := H
 replace H : (if t174 = 0 then ((plait_diagram_word.f k l0).bind fun t175 => (some (t175, 0))) else (some (([] : List Int), t174))) = some (r1, r2) := H
 have A2 := Aside0.mk A20
 clear A20
 by_cases c3 : t174 = 0
 ·rw [if_pos c3] at H
  have c3b0 : (t174 == 0) = true := beq_iff_eq.mpr c3
  have c3b1 : (t174 != 0) = false := bne_eq_false_iff_eq.mpr c3
  clear c3
  replace H := Option.bind_eq_some_iff.mp H
  obtain ⟨t175, A40, H⟩ := H
  replace H : (some (t175, 0)) = some (r1, r2) := H
  have A4 := Aside0.mk A40
  clear A40
  simp only [Option.some.injEq, Prod.mk.injEq] at H
  obtain ⟨rfl, rfl⟩ := H
  go_enter Try.func21, Try.ntmps21
  go_wp2_with (first | ((with_reducible refine gate_callee (f := 54) rfl ?_); refine goesL_ (some 8) rfl rfl Try.func54 (by kernel_rfl) rfl #[.slice A0 l0.length c0] rfl (by (try simp only [List.map_toArray, List.map_cons, List.map_nil]); first | done | rfl | (simp only [List.length_drop, List.length_take]; rfl)) ?_; (with_reducible refine (plait_of.calls k _ _ l0 t174 _ ?side1 ?side2 A2.out).mono ?_); (case side1 => repeat (first | exact HR0.out | (with_reducible refine Kd.C_alloc ?_ _) | (with_reducible refine Kd.C_drewN ?_ _) | (with_reducible refine Kd.C_drew ?_))); (case side2 => exact HC0.out); rintro e w5 ⟨rfl, hb⟩; refine ⟨_, rfl, ?_⟩; have n0_ := Aside0.mk (below_step (by repeat (first | (with_reducible first | exact HB.out | apply below_alloc | apply pw_below_drewN | apply below_drew1) | exact HB.out)) hb); clear HB; have HB := n0_; clear n0_; (try clear hb); (try clear hb2); (try clear hk); (try clear hi)) | ((with_reducible refine gate_callee (f := 55) rfl ?_); refine goesL_ (some 15) rfl rfl Try.func55 (by kernel_rfl) rfl #[.slice A0 l0.length c0] rfl (by (try simp only [List.map_toArray, List.map_cons, List.map_nil]); first | done | rfl | (simp only [List.length_drop, List.length_take]; rfl)) ?_; (with_reducible refine (plait_diagram_word.calls k _ _ l0 t175 _ ?side1 ?side2 A4.out).mono ?_); (case side1 => repeat (first | exact (Kd.C_below HR0.out HB.out) | (with_reducible refine Kd.C_alloc ?_ _) | (with_reducible refine Kd.C_drewN ?_ _) | (with_reducible refine Kd.C_drew ?_))); (case side2 => exact HC0.out); rintro e w6 ⟨v176, rfl, ho0, hb⟩; refine ⟨_, rfl, ?_⟩; have n0_ := Aside0.mk (Kd.R_lower ho0 (below_size (by repeat (first | (with_reducible first | exact HB.out | apply below_alloc | apply pw_below_drewN | apply below_drew1) | exact HB.out)))); have n1_ := Aside0.mk (below_step (by repeat (first | (with_reducible first | exact HB.out | apply below_alloc | apply pw_below_drewN | apply below_drew1) | exact HB.out)) hb); clear HB; have HO177 := n0_; have HB := n1_; clear n0_ n1_; (try clear hb); (try clear hb2); (try clear hk); (try clear hi); (try clear ho0)))
  go_ret2
  exact ⟨_, by first | rfl | (simp [errW_none, errW_some] <;> rfl) | (simp [*, errW_none, errW_some] <;> rfl), by (with_reducible repeat (first | apply Kd.R_alloc | apply Kd.R_drewN | apply Kd.R_drew)); exact HO177.out, by repeat (first | (with_reducible first | exact HB.out | apply below_alloc | apply pw_below_drewN | apply below_drew1) | exact HB.out)⟩
 ·rw [if_neg c3] at H
  have c3b0 : (t174 == 0) = false := beq_eq_false_iff_ne.mpr c3
  have c3b1 : (t174 != 0) = true := bne_iff_ne.mpr c3
  simp only [Option.some.injEq, Prod.mk.injEq] at H
  obtain ⟨rfl, rfl⟩ := H
  go_enter Try.func21, Try.ntmps21
  go_wp2_with (first | ((with_reducible refine gate_callee (f := 54) rfl ?_); refine goesL_ (some 8) rfl rfl Try.func54 (by kernel_rfl) rfl #[.slice A0 l0.length c0] rfl (by (try simp only [List.map_toArray, List.map_cons, List.map_nil]); first | done | rfl | (simp only [List.length_drop, List.length_take]; rfl)) ?_; (with_reducible refine (plait_of.calls k _ _ l0 t174 _ ?side1 ?side2 A2.out).mono ?_); (case side1 => repeat (first | exact HR0.out | (with_reducible refine Kd.C_alloc ?_ _) | (with_reducible refine Kd.C_drewN ?_ _) | (with_reducible refine Kd.C_drew ?_))); (case side2 => exact HC0.out); rintro e w7 ⟨rfl, hb⟩; refine ⟨_, rfl, ?_⟩; have n0_ := Aside0.mk (below_step (by repeat (first | (with_reducible first | exact HB.out | apply below_alloc | apply pw_below_drewN | apply below_drew1) | exact HB.out)) hb); clear HB; have HB := n0_; clear n0_; (try clear hb); (try clear hb2); (try clear hk); (try clear hi)))
  go_ret2
  exact ⟨_, by first | rfl | (simp [errW_none, errW_some] <;> rfl) | (simp [*, errW_none, errW_some] <;> rfl), by first | exact Kd.R_nil _ _ _ _ _ | exact Kd.N_nil _ _ _ _ _ | exact Kd.V_nil _ _ _ _ _ | exact Kd.Q_nil _ _ _ _ _ | exact Kd.S_nil _ _ _ _ _, by repeat (first | (with_reducible first | exact HB.out | apply below_alloc | apply pw_below_drewN | apply below_drew1) | exact HB.out)⟩
end Go.Proofs.Ytjfkompfkgjdaaa.PC
end
section
namespace Go.Proofs.Ytjfkompfkgjdaaa.PC
open Go.RowKit Go.Proofs.YtjfkompfkgjdaaaW.PrintWords Go.Proofs.YtjfkompfkgjdaaaW.PrintLast Go.Proofs.YtjfkompfkgjdaaaW.PrintMore
attribute [local go_sem] max2_int min2_int max_two min_two max_three min_three max_four min_four   -- for this text's walks alone
set_option linter.unusedVariables false
set_option linter.unusedSimpArgs false
/-! ### pomaderef07_Identity: function 28 -/
def pomaderef07_Identity.l0 : Nat → Int → List Int → Int → Option (List Int)
 | 0, _, _, _ => none
 | k + 1, x0, x3, x4 => if x4 < (wrap64 (2 * x0)) then (if (wrap64 (2 * x0)) = 0 then (none) else (if x3.length < 17592186044416 then (pomaderef07_Identity.l0 k x0 (x3 ++ [Int.tmod (wrap64 (x4 + x0)) (wrap64 (2 * x0))]) (wrap64 (x4 + 1))) else (none))) else (some x3)
def pomaderef07_Identity.f (k : Nat) (a0 : Int) : Option (List Int) := pomaderef07_Identity.l0 k a0 ([] : List Int) 0
theorem pomaderef07_Identity.mono_l : ∀ k, (∀ y0 y1 y2, LeO (pomaderef07_Identity.l0 k y0 y1 y2) (pomaderef07_Identity.l0 (k + 1) y0 y1 y2))
 | 0 => fun _ _ _ r h => by simp [pomaderef07_Identity.l0] at h
 | k + 1 => by
  have ih0 := pomaderef07_Identity.mono_l k
  ·intro y0 y1 y2
   unfold pomaderef07_Identity.l0
   repeat' first
   | (with_reducible exact ih0 _ _ _)
   | (with_reducible exact LeO.refl _)
   | (with_reducible exact LeO.none _)
   | (with_reducible refine LeO.ite ?_ ?_)
   | (with_reducible refine LeO.bind ?_ (fun _ => ?_))
   | exact ih0 _ _ _
   | exact LeO.none _
   | refine LeO.ite ?_ ?_
   | refine LeO.bind ?_ (fun _ => ?_)
theorem pomaderef07_Identity.mono : ∀ a0 k, LeO (pomaderef07_Identity.f k a0) (pomaderef07_Identity.f (k + 1) a0) := by
 intro a0 k
 have ih0 := pomaderef07_Identity.mono_l k
 unfold pomaderef07_Identity.f
 repeat' first
   | (with_reducible exact ih0 _ _ _)
   | (with_reducible exact LeO.refl _)
   | (with_reducible exact LeO.none _)
   | (with_reducible refine LeO.ite ?_ ?_)
   | (with_reducible refine LeO.bind ?_ (fun _ => ?_))
   | exact ih0 _ _ _
   | exact LeO.none _
   | refine LeO.ite ?_ ?_
   | refine LeO.bind ?_ (fun _ => ?_)
set_option maxHeartbeats 8000000 in
set_option maxRecDepth 100000 in
theorem pomaderef07_Identity.calls (k : Nat) (a0 : Int) (r : List Int) (w : World) (h : pomaderef07_Identity.f k a0 = some r) :
  Calls Try.prog 28 #[.int .i64 a0] w fun e w' => ∃ v0_ : Value, e = .returned (v0_) ∧ Kd.R (Kd.int .i64) 3 w' w.heap.size (fun _ => True) v0_ r ∧ Below w.heap.size w w' := by
 have HB := Aside0.mk (Below.refl w.heap.size w)
 have H : (pomaderef07_Identity.l0 k a0 ([] : List Int) 0) = some r := h
 clear h
 have H' := Aside0.mk H
 clear H
 go_enter Try.func28, Try.ntmps28
 go_wp2
 go_loopg [3, 4] k (fun kq v3 v4 w' => ∃ (x3_1 : List Int) (x4_1 : Int), v4 = .int .i64 x4_1 ∧ Aside0 (pomaderef07_Identity.l0 kq a0 x3_1 x4_1 = some r) ∧ Aside0 (kq ≤ k) ∧ Aside0 (Kd.R (Kd.int .i64) 3 w' w.heap.size (fun _ => True) v3 x3_1) ∧ Aside0 (Below w.heap.size w w'))
 case atStart => exact ⟨(([] : List Int)), (0), (by first | rfl | (simp; done) | (simp [*]; done)), H', ⟨Nat.le_refl _⟩, ⟨by first | exact Kd.R_nil _ _ _ _ _ | exact Kd.N_nil _ _ _ _ _ | exact Kd.V_nil _ _ _ _ _ | exact Kd.Q_nil _ _ _ _ _ | exact Kd.S_nil _ _ _ _ _⟩, ⟨by repeat (first | (with_reducible first | exact HB.out | apply below_alloc | apply pw_below_drewN | apply below_drew1) | exact HB.out)⟩⟩
 case round =>
  clear H'
  obtain ⟨x3_1, x4_1, rfl, HA, HK1, HO_3, HB⟩ := hrel
  cases gk with
  | zero => exact absurd HA.out (by simp [pomaderef07_Identity.l0])
  | succ k1 =>
   have H := HA.out
   clear HA
   simp only [pomaderef07_Identity.l0] at H
   by_cases c2 : x4_1 < (wrap64 (2 * a0))
   ·rw [if_pos c2] at H
    have c2b0 : decide (x4_1 < (wrap64 (2 * a0))) = true := decide_eq_true c2
    clear c2
    by_cases c3 : (wrap64 (2 * a0)) = 0
    ·rw [if_pos c3] at H
     exact absurd H (by simp)
    ·rw [if_neg c3] at H
     have c3b0 : ((wrap64 (2 * a0)) == 0) = false := beq_eq_false_iff_ne.mpr c3
     have c3b1 : ((wrap64 (2 * a0)) != 0) = true := bne_iff_ne.mpr c3
     by_cases c4 : x3_1.length < 17592186044416
     ·rw [if_pos c4] at H
      have LMc4 := Aside0.mk c4
      clear c4
      obtain ⟨y354, hy354⟩ : ∃ y_ : List Int, y_ = (x3_1 ++ [Int.tmod (wrap64 (x4_1 + a0)) (wrap64 (2 * a0))]) := ⟨_, rfl⟩
      replace H : (pomaderef07_Identity.l0 k1 a0 y354 (wrap64 (x4_1 + 1))) = some r := by first | (rw [hy354]; with_reducible exact H) | (have H2_ := (Option.bind_some _ _).symm.trans H; rw [hy354]; with_reducible exact H2_) | (have H2_ := (Option.bind_some _ _).symm.trans H; with_reducible exact H2_) | with_reducible exact H | (rw [hy354]; exact H) | exact H
      have Ny354 := Aside0.mk hy354
      clear hy354
      have H' := Aside0.mk H
      clear H
      go_wp2_with (first | ((with_reducible refine gate_builtin (b := .append) (xs := #[.tmp 11, .tmp 18]) rfl ?_); at_builtin; refine Kd.R_append (Kd.int .i64) (w0 := w) w.heap.size rfl (.tmp 11) (.tmp 18) 22 3 (.int .i64 0) 8 rfl Try.underlying22 info3 rfl (by decide) (by omega) u3 x3_1 (Int.tmod (wrap64 (x4_1 + a0)) (wrap64 (2 * a0))) [.int .i64 (Int.tmod (wrap64 (x4_1 + a0)) (wrap64 (2 * a0)))] (fun _ => True) (fun _ => False) rfl rfl ?aP (fun _ hk => hk.elim) ?aF ?aO ?aB ?aS ?aL ?_; (case aP => exact rfl); (case aB => exact (by repeat (first | (with_reducible first | exact HB.out | apply below_alloc | apply pw_below_drewN | apply below_drew1) | exact HB.out))); (case aF => exact (fun _ _ => trivial)); (case aO => exact (by (with_reducible repeat (first | apply Kd.R_alloc | apply Kd.R_drewN | apply Kd.R_drew)); exact HO_3.out)); (case aS => exact (below_size (by repeat (first | (with_reducible first | exact HB.out | apply below_alloc | apply pw_below_drewN | apply below_drew1) | exact HB.out)))); (case aL => have := LMc4.out; omega); intro v355 w5 ho hb hg hat; rw [← Ny354.out] at ho; have n0_ := Aside0.mk (hb); have n1_ := Aside0.mk (ho); clear HB; clear HO_3; have HB := n0_; have HO356 := n1_; clear n0_ n1_; clear ho hb hg hat))
      go_roundg k1
      case measure => have := HK1.out; omega
      case rel => exact ⟨(y354), (wrap64 (x4_1 + 1)), (by first | rfl | (simp; done) | (simp [*]; done)), H', ⟨by have := HK1.out; omega⟩, ⟨by (with_reducible repeat (first | apply Kd.R_alloc | apply Kd.R_drewN | apply Kd.R_drew)); exact HO356.out⟩, ⟨by repeat (first | (with_reducible first | exact HB.out | apply below_alloc | apply pw_below_drewN | apply below_drew1) | exact HB.out)⟩⟩
     ·rw [if_neg c4] at H
      exact absurd H (by simp)
   ·rw [if_neg c2] at H
    have c2b0 : decide (x4_1 < (wrap64 (2 * a0))) = false := decide_eq_false c2
    clear c2
    obtain rfl := Option.some.inj H
    go_wp2
    go_ret
    exact ⟨_, by first | rfl | (simp [errW_none, errW_some] <;> rfl) | (simp [*, errW_none, errW_some] <;> rfl), by (with_reducible repeat (first | apply Kd.R_alloc | apply Kd.R_drewN | apply Kd.R_drew)); exact HO_3.out, by repeat (first | (with_reducible first | exact HB.out | apply below_alloc | apply pw_below_drewN | apply below_drew1) | exact HB.out)⟩
end Go.Proofs.Ytjfkompfkgjdaaa.PC
end
