/- Parts of the proof of LawChairsSpreads, one behind the other: PCx0 PCf74 HBig HInt HLine MSpread HChoose HInit HMoves HIter HSpread PCf24 HTab3 PCf65 PCf75 MRSp HEmpty HRSpD HRSpK HRSp PCf58 PCf25. -/
import Derived.Test.YtfopeenjpdaacaaProg
import Derived.Below
import Derived.Deep.Draws
import Derived.Deep.AppendLies
import Derived.Maps.AppendAt
import Derived.OwnWalk
import Derived.Laws.BytesArg
import Derived.Laws.MakeOwn
import Derived.Laws.OwnMore
import Derived.Deep.OwnRows
import Derived.Tactics
import Derived.Lib.ConvBytes
import Derived.Laws.Slices
import Derived.WalkKit
import Derived.KernelRfl
import Derived.RowKit3
import Derived.Deep.LoopGhost
import Derived.Deep.QuietTactic
import Derived.BigQuiet
import Derived.WideLaws
import Derived.Deep.DeepCutAuto
import Derived.Deep.CutBlock
import Derived.Deep.RegionHeld3
import Derived.Laws.Rows
import Derived.Lib.AppendStr
import Derived.ArgAppend
import Derived.Laws.IdiomCopy
import Derived.OrdersHeld
import Derived.Laws.BitsLemmas
import Derived.RowKit
import Derived.Outline
import Derived.Lib.Hide
import Derived.StillTailTactics
import Derived.Laws.Bits64b
import Derived.Deep.RegionWith
import Derived.RangeFuncBox
import Derived.RangeFuncNested
import Derived.RangeFuncCalls
import Derived.RangeFuncLeaves
import Derived.TacticsInMore
import Derived.LoopIn
import Derived.IntWalk
import Derived.RangeFuncWrites
import Derived.Shelf.Abstract
import Derived.Stop.RegionWithIn
import Derived.OwnWalkIn
import Derived.Test.YtfopeenjpdaacaaJChairsSpreads1
section
set_option linter.unusedVariables false
set_option linter.unusedSimpArgs false
namespace Go.Proofs.Ytfopeenjpdaacaa.PC
open Go.RowKit Go.Proofs.YtfopeenjpdaacaaW.PrintWords Go.Proofs.YtfopeenjpdaacaaW.PrintLast Go.Proofs.YtfopeenjpdaacaaW.PrintMore
attribute [local go_sem] max2_int min2_int max_two min_two max_three min_three max_four min_four   -- for this text's walks alone
set_option linter.unusedVariables false
set_option linter.unusedSimpArgs false
def errW : Option Int → Value
  | none => .nilIface
  | some c => .iface 0 (.int .i64 c)
theorem errW_none : errW none = .nilIface := rfl
theorem errW_some (c : Int) : errW (some c) = .iface 0 (.int .i64 c) := rfl
theorem info3 : (Try.prog.info? 3).map (fun i => (i.zero, i.size, i.bytes)) = some (some (.int .i64 0), 1, 8) := by kernel_rfl
theorem info4 : (Try.prog.info? 4).map (fun i => (i.zero, i.size, i.bytes)) = some (some (.bool false), 1, 1) := by kernel_rfl
theorem info22 : (Try.prog.info? 22).map (fun i => (i.zero, i.size, i.bytes)) = some (some (.slice none 0 0), 1, 24) := by kernel_rfl
theorem info55 : (Try.prog.info? 55).map (fun i => (i.zero, i.size, i.bytes)) = some (some (.slice none 0 0), 1, 24) := by kernel_rfl
end Go.Proofs.Ytfopeenjpdaacaa.PC
end
section
set_option linter.unusedVariables false
set_option linter.unusedSimpArgs false
namespace Go.Proofs.Ytfopeenjpdaacaa.PC
open Go.RowKit Go.Proofs.YtfopeenjpdaacaaW.PrintWords Go.Proofs.YtfopeenjpdaacaaW.PrintLast Go.Proofs.YtfopeenjpdaacaaW.PrintMore
attribute [local go_sem] max2_int min2_int max_two min_two max_three min_three max_four min_four   -- for this text's walks alone
set_option linter.unusedVariables false
set_option linter.unusedSimpArgs false
end Go.Proofs.Ytfopeenjpdaacaa.PC
end
section
set_option linter.unusedVariables false
set_option linter.unusedSimpArgs false
/- Numbers of the program's big package that have one digit at most: contracts of trim, of, plus, times and the methods over them. -/
namespace Go.Proofs.Ytfopeenjpdaacaa.PC
open Go.RowKit Go.Proofs.YtfopeenjpdaacaaW.PrintWords Go.Proofs.YtfopeenjpdaacaaW.PrintLast Go.Proofs.YtfopeenjpdaacaaW.PrintMore
/-- digits without zeros at the end: how many are left -/
def tl (xs : List Int) : Nat → Nat
  | 0 => 0
  | n + 1 => if xs.getD n 0 = 0 then tl xs n else n + 1
set_option maxHeartbeats 400000 in
theorem trim_walk (g n c : Nat) (xs : List Int) (w : World) (hx : ∀ j, j < n → w.cell? ⟨g, j, none⟩ = some (.int .u32 (xs.getD j 0))) (_hn : n ≤ 1000) (hc : n ≤ c) (hcm : c ≤ 1000000) :
    Calls Try.prog 84 #[.slice (some ⟨g, 0, none⟩) n c] w fun e w' => e = .returned (.slice (some ⟨g, 0, none⟩) (tl xs n) c) ∧ w = w' := by
  have HX := Lib.hid hx
  clear hx
  obtain ⟨r, hr⟩ : ∃ r, tl xs n = r := ⟨_, rfl⟩
  rw [hr]
  have HR := Lib.hid hr
  clear hr
  go_enter Try.func84, Try.ntmps84
  go_wp2
  go_loop [3] (fun i => ∃ k : Nat, k ≤ n ∧ i = .int .i64 (k : Int) ∧ Hid (tl xs k = r)) (fun i => (intOf i).toNat)
  case atStart => exact ⟨n, Nat.le_refl _, rfl, HR⟩
  case round =>
    obtain ⟨k, hk, rfl, hkr⟩ := hrel
    rcases Nat.eq_zero_or_pos k with h0 | h0
    · subst h0
      have e : 0 = r := hkr.out
      subst e
      go_wp2
      go_ret
      exact ⟨rfl, rfl⟩
    · obtain ⟨m, rfl⟩ : ∃ m, k = m + 1 := ⟨k - 1, by omega⟩
      have d1 : decide ((0 : Int) < ((m + 1 : Nat) : Int)) = true := decide_eq_true (by omega)
      have e1 : (((m + 1 : Nat) : Int) - 1) = (m : Int) := by omega
      have hcell := HX.out m (by omega)
      obtain ⟨x, hxv⟩ : ∃ x, xs.getD m 0 = x := ⟨_, rfl⟩
      rw [hxv] at hcell
      have HXV := Lib.hid hxv
      clear hxv
      have hk2 := hkr.out
      simp only [tl] at hk2
      rw [HXV.out] at hk2
      by_cases hz : x = 0
      · subst hz
        rw [if_pos rfl] at hk2
        have HK := Lib.hid hk2
        clear hk2
        have d2 : ((0 : Int) == 0) = true := rfl
        go_wp2
        go_round
        case rel => exact ⟨m, by omega, by go_num, HK⟩
        case measure => simp [intOf] <;> omega
      · rw [if_neg hz] at hk2
        have d2 : (x == 0) = false := beq_eq_false_iff_ne.2 hz
        subst hk2
        go_wp2
        go_ret
        exact ⟨rfl, rfl⟩
/-- the digits of a number below 2^32 -/
def Dig (W : World) (s : Value) (v : Nat) : Prop :=
  (v = 0 ∧ ∃ A c, s = .slice A 0 c ∧ c ≤ 1000000) ∨ (0 < v ∧ v < 4294967296 ∧ ∃ g c cells, s = .slice (some ⟨g, 0, none⟩) 1 c ∧ 1 ≤ c ∧ c ≤ 1000000 ∧ W.heap[g]? = some (.cells cells 92 (0, 0)) ∧ W.cell? ⟨g, 0, none⟩ = some (.int .u32 (v : Int)))
theorem cell_same {W W' : World} {p : Addr} (h : W'.heap[p.block]? = W.heap[p.block]?) : W'.cell? p = W.cell? p := by
  simp only [World.cell?, h]
theorem Dig.same {W W' : World} {s : Value} {v : Nat} (h : Dig W s v) (hk : ∀ (g : Nat) (cells : Array Value), W.heap[g]? = some (.cells cells 92 (0, 0)) → W'.heap[g]? = W.heap[g]?) : Dig W' s v := by
  rcases h with h | ⟨h1, h2, g, c, cells, h3, h4, h5, h6, h7⟩
  · exact .inl h
  · have e := hk g cells h6
    exact .inr ⟨h1, h2, g, c, cells, h3, h4, h5, e.trans h6, (cell_same (p := ⟨g, 0, none⟩) e).trans h7⟩
theorem Dig.below {W W' : World} {s : Value} {v : Nat} (h : Dig W s v) (hb : Below W.heap.size W W') : Dig W' s v :=
  h.same fun g _ hg => hb.block g (Array.getElem?_eq_some_iff.1 hg).1
theorem Dig.of_new {W : World} {g c : Nat} {cells : Array Value} (h : W.heap[g]? = some (.cells cells 92 (0, 0))) (hc : c ≤ 1000000) (h1 : 1 ≤ c) {v : Nat} (hv : v < 4294967296) (h0 : cells[0]? = some (.int .u32 (v : Int))) :
    Dig W (.slice (some ⟨g, 0, none⟩) (if v = 0 then 0 else 1) c) v := by
  split
  · rename_i e; exact .inl ⟨e, _, _, rfl, hc⟩
  · refine .inr ⟨by omega, hv, g, c, cells, rfl, h1, hc, h, ?_⟩
    simp [World.cell?, h, h0]
theorem tl_one (v : Nat) (xs : List Int) (h0 : xs.getD 0 0 = (v : Int)) (n : Nat) (hn : ∀ j, 1 ≤ j → j < n + 1 → xs.getD j 0 = 0) : tl xs (n + 1) = if v = 0 then 0 else 1 := by
  induction n with
  | zero =>
    simp only [tl]
    rw [h0]
    by_cases e : v = 0
    · rw [if_pos (by omega), if_pos e]
    · rw [if_neg (by omega), if_neg e]
  | succ n ih =>
    rw [tl, if_pos (hn (n + 1) (by omega) (by omega))]
    exact ih (fun j h1 h2 => hn j h1 (by omega))
theorem two_cells (v : Nat) (w : World) : ∀ j, j < 2 → (w.alloc (.cells #[.int .u32 (v : Int), .int .u32 0] 92)).cell? ⟨w.heap.size, j, none⟩ = some (.int .u32 ([(v : Int), 0].getD j 0)) := by
  intro j hj
  rw [World.cell?_alloc_at _ _ _ _ rfl]
  match j, hj with
  | 0, _ => rfl
  | 1, _ => rfl
set_option maxHeartbeats 400000 in
theorem of_walk (v : Nat) (hv : v < 4294967296) (w : World) :
    Calls Try.prog 78 #[.int .u64 (v : Int)] w fun e w' => ∃ s, e = .returned s ∧ Dig w' s v ∧ Below w.heap.size w w' := by
  have e1 : (v : Int) / 4294967296 = 0 := by omega
  have h0 := heap_alloc_new w (.cells #[.int .u32 (v : Int), .int .u32 0] 92)
  have HN := Lib.hid h0
  clear h0
  have hcells : ∀ j, j < 2 → (w.alloc (.cells #[.int .u32 (v : Int), .int .u32 0] 92)).cell? ⟨w.heap.size, j, none⟩ = some (.int .u32 ([(v : Int), 0].getD j 0)) := by
    intro j hj
    rw [World.cell?_alloc_at _ _ _ _ rfl]
    match j, hj with
    | 0, _ => rfl
    | 1, _ => rfl
  have HC := Lib.hid hcells
  clear hcells
  go_enter Try.func78, Try.ntmps78
  go_wp2_with (go_at_call 84; refine (trim_walk w.heap.size 2 2 [(v : Int), 0] _ HC.out (by omega) (by omega) (by omega)).mono ?_; rintro e w' ⟨rfl, rfl⟩)
  go_ret
  refine ⟨_, rfl, ?_, (Below.refl _ w).alloc (Nat.le_refl _) _⟩
  rw [tl_one v _ rfl 1 (fun j h1 h2 => by rw [show j = 1 by omega]; rfl)]
  exact Dig.of_new HN.out (by omega) (by omega) hv rfl
theorem mk92 (m : Nat) (hm : m ≤ 1000) (t : Value) (ht : t = .int .i64 (m : Int)) : ∀ W : World, (Instr.makeSlice 80 t t).run Try.prog W = .ok (.slice (some ⟨W.heap.size, 0, none⟩) m m) (W.alloc (.cells (madeCells #[.int .u32 0] m) 92)) := by
  subst ht
  exact print_make 80 92 .u32 4 Try.underlying80 (by kernel_rfl) (by omega) m (by omega)
theorem mk92_2 : ∀ W : World, (Instr.makeSlice 80 (.int .i64 2) (.int .i64 2)).run Try.prog W = .ok (.slice (some ⟨W.heap.size, 0, none⟩) 2 2) (W.alloc (.cells #[.int .u32 0, .int .u32 0] 92)) := by
  have h := mk92 2 (by omega) (.int .i64 2) rfl
  rwa [show madeCells #[Value.int .u32 0] 2 = #[.int .u32 0, .int .u32 0] by simp [madeCells, Array.ext_iff]; intro i h1 h2; rcases i with _ | _ | i <;> simp at h1 ⊢; omega] at h
theorem mk92_1 : ∀ W : World, (Instr.makeSlice 80 (.int .i64 1) (.int .i64 1)).run Try.prog W = .ok (.slice (some ⟨W.heap.size, 0, none⟩) 1 1) (W.alloc (.cells #[.int .u32 0] 92)) := by
  have h := mk92 1 (by omega) (.int .i64 1) rfl
  rwa [show madeCells #[Value.int .u32 0] 1 = #[.int .u32 0] by simp [madeCells, Array.ext_iff]] at h
set_option maxHeartbeats 400000 in
set_option maxRecDepth 100000 in
theorem plus11 (ga ca gb cb x y : Nat) (w : World) (hx : w.cell? ⟨ga, 0, none⟩ = some (.int .u32 (x : Int))) (hy : w.cell? ⟨gb, 0, none⟩ = some (.int .u32 (y : Int))) (hs : x + y < 4294967296) :
    Calls Try.prog 81 #[.slice (some ⟨ga, 0, none⟩) 1 ca, .slice (some ⟨gb, 0, none⟩) 1 cb] w fun e w' => ∃ s, e = .returned s ∧ Dig w' s (x + y) ∧ Below w.heap.size w w' := by
  have hmk := mk92_2
  have h0 := heap_alloc_new w (.cells #[.int .u32 ((x + y : Nat) : Int), .int .u32 0] 92)
  have HN := Lib.hid h0
  clear h0
  have h0 := two_cells (x + y) w
  have HC := Lib.hid h0
  clear h0
  have ga1 := World.block_lt_of_cell? w _ hx
  have gb1 := World.block_lt_of_cell? w _ hy
  simp only at ga1 gb1
  have hs2 : ((x : Int) + (y : Int)) / 4294967296 = 0 := by omega
  go_enter Try.func81, Try.ntmps81
  go_wp2
  refine wp_loop_rounds 2 ?_
  rw [rounds_succ]
  go_wp2
  rw [rounds_succ]
  go_wp2_with (go_at_call 84; refine (trim_walk w.heap.size 2 2 [((x + y : Nat) : Int), 0] _ HC.out (by omega) (by omega) (by omega)).mono ?_; rintro e w' ⟨rfl, rfl⟩)
  go_ret
  refine ⟨_, rfl, ?_, (Below.refl _ w).alloc (Nat.le_refl _) _⟩
  rw [tl_one (x + y) _ rfl 1 (fun j h1 h2 => by rw [show j = 1 by omega]; rfl)]
  exact Dig.of_new HN.out (by omega) (by omega) hs rfl
set_option maxHeartbeats 400000 in
set_option maxRecDepth 100000 in
theorem plus10 (ga ca : Nat) (B : Option Addr) (cb x : Nat) (w : World) (hx : w.cell? ⟨ga, 0, none⟩ = some (.int .u32 (x : Int))) (hs : x < 4294967296) :
    Calls Try.prog 81 #[.slice (some ⟨ga, 0, none⟩) 1 ca, .slice B 0 cb] w fun e w' => ∃ s, e = .returned s ∧ Dig w' s x ∧ Below w.heap.size w w' := by
  have hmk := mk92_2
  have h0 := heap_alloc_new w (.cells #[.int .u32 (x : Int), .int .u32 0] 92)
  have HN := Lib.hid h0
  clear h0
  have h0 := two_cells x w
  have HC := Lib.hid h0
  clear h0
  have ga1 := World.block_lt_of_cell? w _ hx
  simp only at ga1
  have hs2 : (x : Int) / 4294967296 = 0 := by omega
  go_enter Try.func81, Try.ntmps81
  go_wp2
  refine wp_loop_rounds 2 ?_
  rw [rounds_succ]
  go_wp2
  rw [rounds_succ]
  go_wp2_with (go_at_call 84; refine (trim_walk w.heap.size 2 2 [(x : Int), 0] _ HC.out (by omega) (by omega) (by omega)).mono ?_; rintro e w' ⟨rfl, rfl⟩)
  go_ret
  refine ⟨_, rfl, ?_, (Below.refl _ w).alloc (Nat.le_refl _) _⟩
  rw [tl_one x _ rfl 1 (fun j h1 h2 => by rw [show j = 1 by omega]; rfl)]
  exact Dig.of_new HN.out (by omega) (by omega) hs rfl
set_option maxHeartbeats 400000 in
set_option maxRecDepth 100000 in
theorem plus01 (ga ca : Nat) (B : Option Addr) (cb x : Nat) (w : World) (hx : w.cell? ⟨ga, 0, none⟩ = some (.int .u32 (x : Int))) (hs : x < 4294967296) :
    Calls Try.prog 81 #[.slice B 0 cb, .slice (some ⟨ga, 0, none⟩) 1 ca] w fun e w' => ∃ s, e = .returned s ∧ Dig w' s x ∧ Below w.heap.size w w' := by
  have hmk := mk92_2
  have h0 := heap_alloc_new w (.cells #[.int .u32 (x : Int), .int .u32 0] 92)
  have HN := Lib.hid h0
  clear h0
  have h0 := two_cells x w
  have HC := Lib.hid h0
  clear h0
  have ga1 := World.block_lt_of_cell? w _ hx
  simp only at ga1
  have hs2 : (x : Int) / 4294967296 = 0 := by omega
  go_enter Try.func81, Try.ntmps81
  go_wp2
  refine wp_loop_rounds 2 ?_
  rw [rounds_succ]
  go_wp2
  rw [rounds_succ]
  go_wp2_with (go_at_call 84; refine (trim_walk w.heap.size 2 2 [(x : Int), 0] _ HC.out (by omega) (by omega) (by omega)).mono ?_; rintro e w' ⟨rfl, rfl⟩)
  go_ret
  refine ⟨_, rfl, ?_, (Below.refl _ w).alloc (Nat.le_refl _) _⟩
  rw [tl_one x _ rfl 1 (fun j h1 h2 => by rw [show j = 1 by omega]; rfl)]
  exact Dig.of_new HN.out (by omega) (by omega) hs rfl
set_option maxHeartbeats 400000 in
set_option maxRecDepth 100000 in
theorem plus00 (A : Option Addr) (ca : Nat) (B : Option Addr) (cb : Nat) (w : World) :
    Calls Try.prog 81 #[.slice A 0 ca, .slice B 0 cb] w fun e w' => ∃ s, e = .returned s ∧ Dig w' s 0 ∧ Below w.heap.size w w' := by
  have hmk := mk92_1
  have h0 : ∀ j, j < 1 → (w.alloc (.cells #[.int .u32 0] 92)).cell? ⟨w.heap.size, j, none⟩ = some (.int .u32 (([0] : List Int).getD j 0)) := by
    intro j hj
    rw [World.cell?_alloc_at _ _ _ _ rfl]
    match j, hj with
    | 0, _ => rfl
  have HC := Lib.hid h0
  clear h0
  go_enter Try.func81, Try.ntmps81
  go_wp2
  refine wp_loop_rounds 1 ?_
  rw [rounds_succ]
  go_wp2_with (go_at_call 84; refine (trim_walk w.heap.size 1 1 [0] _ HC.out (by omega) (by omega) (by omega)).mono ?_; rintro e w' ⟨rfl, rfl⟩)
  go_ret
  refine ⟨_, rfl, .inl ⟨rfl, _, 1, rfl, by omega⟩, (Below.refl _ w).alloc (Nat.le_refl _) _⟩
theorem plus_walk {w : World} {s t : Value} {x y : Nat} (h : Dig w s x) (k : Dig w t y) (hs : x + y < 4294967296) :
    Calls Try.prog 81 #[s, t] w fun e w' => ∃ s, e = .returned s ∧ Dig w' s (x + y) ∧ Below w.heap.size w w' := by
  rcases h with ⟨rfl, A, c, rfl, _⟩ | ⟨h1, h2, g, c, cells, rfl, h4, h5, h6, h7⟩
  · rcases k with ⟨rfl, B, d, rfl, _⟩ | ⟨k1, k2, g, d, cells, rfl, k4, k5, k6, k7⟩
    · exact plus00 A c B d w
    · rw [Nat.zero_add]; exact plus01 g d A c y w k7 k2
  · rcases k with ⟨rfl, B, d, rfl, _⟩ | ⟨k1, k2, g', d, cells, rfl, k4, k5, k6, k7⟩
    · exact plus10 g c B d x w h7 h2
    · exact plus11 g c g' d x y w h7 k7 hs
set_option maxHeartbeats 400000 in
theorem small1 (g c x : Nat) (w : World) (hx : w.cell? ⟨g, 0, none⟩ = some (.int .u32 (x : Int))) (x1 : x < 4294967296) :
    Calls Try.prog 74 #[.slice (some ⟨g, 0, none⟩) 1 c] w fun e w' => e = .returned (.tuple #[.int .u64 (x : Int), .bool true]) ∧ w = w' := by
  go_enter Try.func74, Try.ntmps74
  go_wp2
  go_ret2
  exact ⟨rfl, rfl⟩
set_option maxHeartbeats 400000 in
theorem small0 (A : Option Addr) (c : Nat) (w : World) :
    Calls Try.prog 74 #[.slice A 0 c] w fun e w' => e = .returned (.tuple #[.int .u64 0, .bool true]) ∧ w = w' := by
  go_enter Try.func74, Try.ntmps74
  go_wp2
  go_ret2
  exact ⟨rfl, rfl⟩
theorem maskS (a : Nat) (ha : a < 4294967296) : bits .and .u64 (a : Int) 4294967295 = (a : Int) := by
  have h := bits_and_u64_nat a 4294967295 (by omega) (by omega)
  have e : a &&& 4294967295 = a % 4294967296 := Nat.and_two_pow_sub_one_eq_mod a 32
  rw [e, Nat.mod_eq_of_lt ha] at h
  exact h
theorem wrapS (a : Int) (h0 : 0 ≤ a) (ha : a < 4294967296) : IntKind.u64.wrap a = a := by rw [IntKind.wrap_u64]; omega
set_option maxHeartbeats 400000 in
set_option maxRecDepth 100000 in
theorem mul64 (x y : Nat) (w : World) (x1 : x < 4294967296) (y1 : y < 4294967296) (hs : x * y < 4294967296) :
    Calls Try.prog 85 #[.int .u64 (x : Int), .int .u64 (y : Int)] w fun e w' => e = .returned (.tuple #[.int .u64 0, .int .u64 ((x * y : Nat) : Int)]) ∧ w = w' := by
  have e0 : ((x * y : Nat) : Int) = (x : Int) * (y : Int) := Int.natCast_mul x y
  obtain ⟨z, hz⟩ : ∃ z : Int, (x : Int) * (y : Int) = z := ⟨_, rfl⟩
  have e1 : (x : Int) / 4294967296 = 0 := by omega
  have e2 : (y : Int) / 4294967296 = 0 := by omega
  have e3 : z / 4294967296 = 0 := by omega
  have e4 : IntKind.u64.wrap z = z := wrapS z (by omega) (by omega)
  have e5 := maskS x x1
  have e6 := maskS y y1
  have e7 : bits .and .u64 0 4294967295 = 0 := maskS 0 (by omega)
  have e8 : IntKind.u64.wrap 0 = 0 := wrapS 0 (by omega) (by omega)
  rw [e0, hz]
  clear e0 hs
  go_enter Try.func85, Try.ntmps85
  go_wp2
  go_ret2
  exact ⟨rfl, rfl⟩
theorem four_cells (v : Nat) (w : World) : ∀ j, j < 4 → (w.alloc (.cells #[.int .u32 (v : Int), .int .u32 0, .int .u32 0, .int .u32 0] 92)).cell? ⟨w.heap.size, j, none⟩ = some (.int .u32 ([(v : Int), 0, 0, 0].getD j 0)) := by
  intro j hj
  rw [World.cell?_alloc_at _ _ _ _ rfl]
  match j, hj with
  | 0, _ => rfl
  | 1, _ => rfl
  | 2, _ => rfl
  | 3, _ => rfl
/-- a number and the value that the walk of 'small' reads off its digits -/
theorem small_walk {w : World} {s : Value} {x : Nat} (h : Dig w s x) : Calls Try.prog 74 #[s] w fun e w' => e = .returned (.tuple #[.int .u64 (x : Int), .bool true]) ∧ w = w' := by
  rcases h with ⟨rfl, A, c, rfl, _⟩ | ⟨h1, h2, g, c, cells, rfl, h4, h5, h6, h7⟩
  · exact small0 A c w
  · exact small1 g c x w h7 h2
theorem Dig.lt {w : World} {s : Value} {x : Nat} (h : Dig w s x) : x < 4294967296 := by
  rcases h with ⟨rfl, _⟩ | ⟨_, h2, _⟩
  · omega
  · exact h2
set_option maxHeartbeats 400000 in
set_option maxRecDepth 100000 in
theorem times_walk {w : World} {s t : Value} {x y : Nat} (h : Dig w s x) (k : Dig w t y) (hs : x * y < 4294967296) :
    Calls Try.prog 80 #[s, t] w fun e w' => ∃ s, e = .returned s ∧ Dig w' s (x * y) ∧ Below w.heap.size w w' := by
  have x1 := h.lt
  have y1 := k.lt
  obtain ⟨z, hz⟩ : ∃ z, x * y = z := ⟨_, rfl⟩
  have HM := mul64 x y w x1 y1 hs
  rw [hz] at HM hs ⊢
  clear hz
  have HS := Lib.hid h
  have HT := Lib.hid k
  clear h k
  have e1 : (z : Int) / 4294967296 = 0 := by omega
  have h0 := heap_alloc_new w (.cells #[.int .u32 (z : Int), .int .u32 0, .int .u32 0, .int .u32 0] 92)
  have HN := Lib.hid h0
  clear h0
  have h0 := four_cells z w
  have HC := Lib.hid h0
  clear h0
  go_enter Try.func80, Try.ntmps80
  go_wp2_with (first | (go_at_call 74; with_reducible refine (small_walk HS.out).mono ?_; rintro e w' ⟨rfl, rfl⟩) | (go_at_call 74; with_reducible refine (small_walk HT.out).mono ?_; rintro e w' ⟨rfl, rfl⟩) | (go_at_call 85; refine HM.mono ?_; rintro e w' ⟨rfl, rfl⟩) | (go_at_call 84; refine (trim_walk w.heap.size 4 4 [(z : Int), 0, 0, 0] _ HC.out (by omega) (by omega) (by omega)).mono ?_; rintro e w' ⟨rfl, rfl⟩))
  go_ret
  refine ⟨_, rfl, ?_, (Below.refl _ w).alloc (Nat.le_refl _) _⟩
  rw [tl_one z _ rfl 3 (fun j h1 h2 => by have : j = 1 ∨ j = 2 ∨ j = 3 := by omega
                                          rcases this with rfl | rfl | rfl <;> rfl)]
  exact Dig.of_new HN.out (by omega) (by omega) hs rfl
end Go.Proofs.Ytfopeenjpdaacaa.PC
end
section
set_option linter.unusedVariables false
set_option linter.unusedSimpArgs false
/- Numbers of the program's big package below 2^32: contracts of the methods over them. -/
namespace Go.Proofs.Ytfopeenjpdaacaa.PC
open Go.RowKit Go.Proofs.YtfopeenjpdaacaaW.PrintWords Go.Proofs.YtfopeenjpdaacaaW.PrintLast Go.Proofs.YtfopeenjpdaacaaW.PrintMore
/-- a number behind a pointer -/
def Num (W : World) (p v : Nat) : Prop := ∃ s, W.heap[p]? = some (.cells #[.bool false, s] 82 (0, 0)) ∧ Dig W s v
/-- a block of a number, whatever it holds -/
def Slot (W : World) (p : Nat) : Prop := ∃ b s, W.heap[p]? = some (.cells #[b, s] 82 (0, 0))
theorem Num.slot {W : World} {p v : Nat} (h : Num W p v) : Slot W p := by obtain ⟨s, h, _⟩ := h; exact ⟨_, _, h⟩
theorem Num.lt {W : World} {p v : Nat} (h : Num W p v) : p < W.heap.size := by obtain ⟨s, h, _⟩ := h; exact (Array.getElem?_eq_some_iff.1 h).1
theorem Slot.lt {W : World} {p : Nat} (h : Slot W p) : p < W.heap.size := by obtain ⟨b, s, h⟩ := h; exact (Array.getElem?_eq_some_iff.1 h).1
theorem Dig.grown {W W' : World} {s : Value} {v p : Nat} (h : Dig W s v) (hs : Slot W p) (hg : W.grownBy W' (some p)) : Dig W' s v :=
  h.same fun g cells hc => hg.block g (Array.getElem?_eq_some_iff.1 hc).1 (by
    rintro e
    cases e
    obtain ⟨b, s', hs⟩ := hs
    rw [hc] at hs
    injection hs with hs
    injection hs with _ h2
    cases h2)
theorem Num.grown {W W' : World} {q v p : Nat} (h : Num W q v) (hs : Slot W p) (hne : q ≠ p) (hg : W.grownBy W' (some p)) : Num W' q v := by
  obtain ⟨s, h1, h2⟩ := h
  exact ⟨s, (hg.block q (Array.getElem?_eq_some_iff.1 h1).1 (by rintro e; cases e; exact hne rfl)).trans h1, h2.grown hs hg⟩
theorem Num.below {W W' : World} {q v : Nat} (h : Num W q v) (hb : Below W.heap.size W W') : Num W' q v := by
  obtain ⟨s, h1, h2⟩ := h
  exact ⟨s, (hb.block q (Array.getElem?_eq_some_iff.1 h1).1).trans h1, h2.below hb⟩
theorem Slot.below {W W' : World} {q : Nat} (h : Slot W q) (hb : Below W.heap.size W W') : Slot W' q := by
  obtain ⟨b, s, h1⟩ := h
  exact ⟨b, s, (hb.block q (Array.getElem?_eq_some_iff.1 h1).1).trans h1⟩
theorem Dig.form {W : World} {s : Value} {v : Nat} (h : Dig W s v) : ∃ A n c, s = .slice A n c := by
  rcases h with ⟨_, A, c, rfl, _⟩ | ⟨_, _, g, c, cells, rfl, _⟩
  · exact ⟨_, _, _, rfl⟩
  · exact ⟨_, _, _, rfl⟩
theorem heap_set {w : World} {p i : Nat} {cs : Array Value} {t : TypeId} {fr : Nat × Nat} (h : w.heap[p]? = some (.cells cs t fr)) (v : Value) : (w.setCell ⟨p, i, none⟩ v).heap[p]? = some (.cells (cs.setIfInBounds i v) t fr) := by
  show (w.heap.modify p _)[p]? = _
  rw [Array.getElem?_modify, if_pos rfl, h]
  rfl
theorem grown_set (w : World) (b i : Nat) (v : Value) : w.grownBy (w.setCell ⟨b, i, none⟩ v) (some b) :=
  ⟨rfl, rfl, rfl, by show w.heap.size ≤ (w.heap.modify b _).size; rw [Array.size_modify]; exact Nat.le_refl _, fun j _ hj => Below.heap_setCell w _ v j (fun e => hj (by rw [e]))⟩
set_option maxHeartbeats 400000 in
theorem set_walk (p : Nat) (A : Option Addr) (n c : Nat) (b0 s0 : Value) (w : World) (hp : w.heap[p]? = some (.cells #[b0, s0] 82 (0, 0))) :
    Calls Try.prog 79 #[.pointer (some ⟨p, 0, none⟩), .bool false, .slice A n c] w fun e w' => e = .returned (.pointer (some ⟨p, 0, none⟩)) ∧ w'.heap[p]? = some (.cells #[.bool false, .slice A n c] 82 (0, 0)) ∧ w.grownBy w' (some p) := by
  have c0 : w.cell? ⟨p, 0, none⟩ = some b0 := by simp [World.cell?, hp]
  have c1 : w.cell? ⟨p, 1, none⟩ = some s0 := by simp [World.cell?, hp]
  have f0 : w.frozen? ⟨p, 0, none⟩ = false := by simp [World.frozen?, hp]
  have f1 : w.frozen? ⟨p, 1, none⟩ = false := by simp [World.frozen?, hp]
  have HP := Lib.hid hp
  clear hp
  go_enter Try.func79, Try.ntmps79
  go_wp2
  go_ret
  exact ⟨rfl, heap_set (heap_set HP.out _) _, (grown_set _ _ _ _).trans (grown_set _ _ _ _)⟩
set_option maxHeartbeats 400000 in
theorem NewInt_walk (v : Nat) (hv : v < 4294967296) (w : World) :
    Calls Try.prog 70 #[.int .i64 (v : Int)] w fun e w' => ∃ p, e = .returned (.pointer (some ⟨p, 0, none⟩)) ∧ w.heap.size ≤ p ∧ Num w' p v ∧ Below w.heap.size w w' := by
  have d1 : decide ((v : Int) < 0) = false := decide_eq_false (by omega)
  go_enter Try.func70, Try.ntmps70
  go_wp2_with (go_at_call 78; refine (of_walk v hv _).mono ?_; rintro e w' ⟨s, rfl, hd, hb⟩; obtain ⟨A1, n1, c1, rfl⟩ := hd.form; have HD := Lib.hid hd; have HB := Lib.hid hb; clear hd hb)
  go_ret
  have hb := HB.out
  exact ⟨_, rfl, hb.size, ⟨_, heap_alloc_new _ _, HD.out.below ((Below.refl _ _).alloc (Nat.le_refl _) _)⟩, hb.alloc hb.size _⟩
/-- what the walk of a method over numbers reads, in every world on the way -/
structure Reads2 (w : World) (z a b : Nat) (sa sb : Value) (w' : World) : Prop where
  a0 : w'.cell? ⟨a, 0, none⟩ = some (.bool false)
  a1 : w'.cell? ⟨a, 1, none⟩ = some sa
  b0 : w'.cell? ⟨b, 0, none⟩ = some (.bool false)
  b1 : w'.cell? ⟨b, 1, none⟩ = some sb
theorem Reads2.of {w w' : World} {z a b : Nat} {sa sb : Value} (ha : w.heap[a]? = some (.cells #[.bool false, sa] 82 (0, 0))) (hb : w.heap[b]? = some (.cells #[.bool false, sb] 82 (0, 0))) (hza : a ≠ z) (hzb : b ≠ z) (hg : w.grownBy w' (some z)) : Reads2 w z a b sa sb w' := by
  have e1 := (hg.block a (Array.getElem?_eq_some_iff.1 ha).1 (by rintro e; cases e; exact hza rfl)).trans ha
  have e2 := (hg.block b (Array.getElem?_eq_some_iff.1 hb).1 (by rintro e; cases e; exact hzb rfl)).trans hb
  exact ⟨by simp [World.cell?, e1], by simp [World.cell?, e1], by simp [World.cell?, e2], by simp [World.cell?, e2]⟩
theorem reads_all {w w' : World} {z a b : Nat} {sa sb : Value} (h : ∀ w' : World, w.grownBy w' (some z) → Reads2 w z a b sa sb w') (hg : w.grownBy w' (some z)) :
    w'.cell? ⟨a, 0, none⟩ = some (.bool false) ∧ w'.cell? ⟨a, 1, none⟩ = some sa ∧ w'.cell? ⟨b, 0, none⟩ = some (.bool false) ∧ w'.cell? ⟨b, 1, none⟩ = some sb ∧ w.grownBy w' (some z) :=
  ⟨(h w' hg).a0, (h w' hg).a1, (h w' hg).b0, (h w' hg).b1, hg⟩
theorem grown_below {w w1 w2 : World} {row : Option Nat} (h : w.grownBy w1 row) (hb : Below w1.heap.size w1 w2) : w.grownBy w2 row := h.trans (grown_of_below hb row)
theorem Slot.later {w w2 : World} {p : Nat} (h : Slot w p) (hb : Below w.drew.heap.size w.drew w2) : Slot w2 p := Slot.below (W := w.drew) h hb
set_option maxHeartbeats 1000000 in
theorem Mul_walk (z a b x y : Nat) (w : World) (hz : Slot w z) (ha : Num w a x) (hb : Num w b y) (hza : a ≠ z) (hzb : b ≠ z) (hs : x * y < 4294967296) :
    Calls Try.prog 72 #[.pointer (some ⟨z, 0, none⟩), .pointer (some ⟨a, 0, none⟩), .pointer (some ⟨b, 0, none⟩)] w fun e w' => e = .returned (.pointer (some ⟨z, 0, none⟩)) ∧ Num w' z (x * y) ∧ w.grownBy w' (some z) := by
  obtain ⟨sa, ha, da⟩ := ha
  obtain ⟨sb, hb, db⟩ := hb
  have HR := Lib.hid (fun (w' : World) => Reads2.of (w := w) (w' := w') ha hb hza hzb)
  have HR2 := HR
  have HA := Lib.hid da
  have HB := Lib.hid db
  have HZ := Lib.hid hz
  have h0 := HR.out w (World.grownBy.refl w _)
  have a0 := h0.a0
  have a1 := h0.a1
  have b0 := h0.b0
  have b1 := h0.b1
  have hgd : w.grownBy w.drew (some z) := ⟨rfl, rfl, rfl, Nat.le_refl _, fun _ _ _ => rfl⟩
  clear ha hb da db hz h0 hza hzb
  go_enter Try.func72, Try.ntmps72
  go_wp2_with fail
  go_region_held3 (fun w' => w'.cell? ⟨a, 0, none⟩ = some (.bool false) ∧ w'.cell? ⟨a, 1, none⟩ = some sa ∧ w'.cell? ⟨b, 0, none⟩ = some (.bool false) ∧ w'.cell? ⟨b, 1, none⟩ = some sb ∧ w.grownBy w' (some z))
    (first | exact ⟨a0, a1, b0, b1, hgd⟩ | exact reads_all HR2.out hgE | exact reads_all HR2.out hgF)
    (first | (go_at_call 80; refine (times_walk (HA.out.grown HZ.out hgd) (HB.out.grown HZ.out hgd) hs).mono ?_; rintro e w' ⟨s, rfl, hd, hb⟩; obtain ⟨A1, n1, c1, rfl⟩ := hd.form; have hgE := grown_below hgd hb; have hz1 := HZ.out.later hb; have HD := Lib.hid hd; clear hd hb)
           | (go_at_call 79; obtain ⟨q0, q1, hq⟩ := hz1; refine (set_walk z A1 n1 c1 q0 q1 _ hq).mono ?_; rintro e w' ⟨rfl, hp, hgN⟩; have hgF := hgE.trans hgN))
  go_wp2
  go_ret
  exact ⟨rfl, ⟨_, hp, HD.out.grown ⟨_, _, hq⟩ hgN⟩, hgF⟩
theorem block_lt' {w : World} {p : Nat} {o : Obj} (h : w.heap[p]? = some o) : p < w.heap.size := (Array.getElem?_eq_some_iff.1 h).1
theorem cell_of {w : World} {p : Nat} {x y : Value} {t : TypeId} {fr : Nat × Nat} (h : w.heap[p]? = some (.cells #[x, y] t fr)) (_n : Nat) : w.cell? ⟨p, 0, none⟩ = some x := by simp [World.cell?, h]
set_option maxRecDepth 100000 in
set_option maxHeartbeats 1000000 in
theorem Add_walk (z b x y : Nat) (w : World) (hz : Num w z x) (hb : Num w b y) (hzb : b ≠ z) (hs : x + y < 4294967296) :
    Calls Try.prog 73 #[.pointer (some ⟨z, 0, none⟩), .pointer (some ⟨z, 0, none⟩), .pointer (some ⟨b, 0, none⟩)] w fun e w' => e = .returned (.pointer (some ⟨z, 0, none⟩)) ∧ Num w' z (x + y) ∧ w.grownBy w' (some z) := by
  obtain ⟨sa, ha, da⟩ := hz
  obtain ⟨sb, hb, db⟩ := hb
  have a0 : w.cell? ⟨z, 0, none⟩ = some (.bool false) := by simp [World.cell?, ha]
  have a1 : w.cell? ⟨z, 1, none⟩ = some sa := by simp [World.cell?, ha]
  have b0 : w.cell? ⟨b, 0, none⟩ = some (.bool false) := by simp [World.cell?, hb]
  have b1 : w.cell? ⟨b, 1, none⟩ = some sb := by simp [World.cell?, hb]
  have HA := Lib.hid da
  have HB := Lib.hid db
  have HZ := Lib.hid ha
  have HS := Lib.hid hs
  have hb2 : ∀ w' : World, w.grownBy w' (some z) → w'.cell? ⟨b, 0, none⟩ = some (.bool false) ∧ w'.cell? ⟨b, 1, none⟩ = some sb := fun w' hg => by
    have e2 := (hg.block b (Array.getElem?_eq_some_iff.1 hb).1 (by rintro e; cases e; exact hzb rfl)).trans hb
    exact ⟨by simp [World.cell?, e2], by simp [World.cell?, e2]⟩
  have HW := Lib.hid hb2
  clear ha hb da db hzb hs hb2
  go_enter Try.func73, Try.ntmps73
  go_wp2_with fail
  go_quiet (fail)
  go_wp2_with fail
  have hgd : w.grownBy (w.drewN nq).drew (some z) := ⟨rfl, rfl, rfl, Nat.le_refl _, fun _ _ _ => rfl⟩
  go_region_with (first | (go_at_call 81; refine (plus_walk (HA.out.grown ⟨_, _, HZ.out⟩ hgd) (HB.out.grown ⟨_, _, HZ.out⟩ hgd) HS.out).mono ?_; rintro e w' ⟨s, rfl, hd, hb⟩; obtain ⟨A1, n1, c1, rfl⟩ := hd.form; have hgE := grown_below hgd hb; have hz1 := (hb.block z (block_lt' HZ.out)).trans HZ.out; have hzE := cell_of hz1 0; have HD := Lib.hid hd; have HZ1 := Lib.hid hz1; have HGE := Lib.hid hgE; clear hd hb hz1 hgE) | (go_at_call 79; refine (set_walk z A1 n1 c1 _ _ _ HZ1.out).mono ?_; rintro e w' ⟨rfl, hp, hgN⟩; have HP := Lib.hid hp; have HGN := Lib.hid hgN; clear hp hgN))
  all_goals go_wp2
  all_goals go_ret
  all_goals exact ⟨rfl, ⟨_, HP.out, HD.out.grown ⟨_, _, HZ1.out⟩ HGN.out⟩, HGE.out.trans HGN.out⟩
set_option maxRecDepth 100000 in
set_option maxHeartbeats 1000000 in
theorem Int64_walk (p v : Nat) (w : World) (h : Num w p v) :
    Calls Try.prog 57 #[.pointer (some ⟨p, 0, none⟩)] w fun e w' => e = .returned (.int .i64 (v : Int)) ∧ Drawn0 w w' := by
  obtain ⟨s, hp, hd⟩ := h
  have a0 := cell_of hp 0
  have a1 : w.cell? ⟨p, 1, none⟩ = some s := by simp [World.cell?, hp]
  clear hp
  rcases hd with ⟨rfl, A, c, rfl, hc⟩ | ⟨h1, h2, g, c, cells, rfl, h4, h5, h6, h7⟩
  · go_enter Try.func57, Try.ntmps57
    go_wp2_with fail
    go_quiet ((go_at_call 74; exact Calls.quiet_of_same ((small0 A c _).mono (fun _ _ h => ⟨h.1, h.2.symm⟩))))
    go_wp2
    go_ret
    exact ⟨rfl, ⟨⟨_, rfl⟩⟩⟩
  · have hsm : ∀ nd : Nat, Calls Try.prog 74 #[.slice (some ⟨g, 0, none⟩) 1 c] (w.drewN nd) fun e w' => e = .returned (.tuple #[.int .u64 (v : Int), .bool true]) ∧ w' = w.drewN nd := fun nd => (small1 g c v (w.drewN nd) h7 h2).mono fun _ _ h => ⟨h.1, h.2.symm⟩
    have HSm := Lib.hid hsm
    clear h7 h6 hsm
    have hc1 : (1 : Int) ≤ (c : Int) := by omega
    have hc2 : (c : Int) ≤ 9223372036854775807 := by omega
    go_enter Try.func57, Try.ntmps57
    go_wp2_with fail
    go_quiet ((go_at_call 74; exact Calls.quiet_of_same (HSm.out _)))
    go_wp2
    go_ret
    exact ⟨rfl, ⟨⟨_, rfl⟩⟩⟩
end Go.Proofs.Ytfopeenjpdaacaa.PC
end
section
set_option linter.unusedVariables false
set_option linter.unusedSimpArgs false
/- Rows of pointers to numbers, and what adds to them: the plain side and the memory side. -/
namespace Go.Proofs.Ytfopeenjpdaacaa.PC
open Go.RowKit Go.Proofs.YtfopeenjpdaacaaW.PrintWords Go.Proofs.YtfopeenjpdaacaaW.PrintLast Go.Proofs.YtfopeenjpdaacaaW.PrintMore
def ptr (p : Nat) : Value := .pointer (some ⟨p, 0, none⟩)
/-- a row of pointers -/
def PRow (W : World) (q : Nat) (ps : List Nat) : Prop := W.heap[q]? = some (.cells (ps.map ptr).toArray 66 (0, 0))
/-- a row of numbers -/
structure NRow (W : World) (q : Nat) (ps vs : List Nat) : Prop where
  row : PRow W q ps
  len : ps.length = vs.length
  num : ∀ i, i < vs.length → Num W (ps.getD i 0) (vs.getD i 0)
def RowV (W : World) (v : Value) (vs : List Nat) : Prop := ∃ q ps, v = .slice (some ⟨q, 0, none⟩) vs.length vs.length ∧ NRow W q ps vs
theorem PRow.below {W W' : World} {q : Nat} {ps : List Nat} (h : PRow W q ps) {n : Nat} (hb : Below n W W') (hq : q < n) : PRow W' q ps := (hb.block q hq).trans h
theorem PRow.lt {W : World} {q : Nat} {ps : List Nat} (h : PRow W q ps) : q < W.heap.size := (Array.getElem?_eq_some_iff.1 h).1
theorem PRow.cell {W : World} {q : Nat} {ps : List Nat} (h : PRow W q ps) (i : Nat) (hi : i < ps.length) : W.cell? ⟨q, i, none⟩ = some (.pointer (some ⟨ps.getD i 0, 0, none⟩)) := by
  have h' : W.heap[q]? = _ := h
  simp [World.cell?, h', hi, ptr, List.getD_eq_getElem?_getD]
theorem NRow.below {W W' : World} {q : Nat} {ps vs : List Nat} (h : NRow W q ps vs) (hb : Below W.heap.size W W') : NRow W' q ps vs :=
  ⟨h.row.below hb h.row.lt, h.len, fun i hi => (h.num i hi).below hb⟩
theorem RowV.below {W W' : World} {v : Value} {vs : List Nat} (h : RowV W v vs) (hb : Below W.heap.size W W') : RowV W' v vs := by
  obtain ⟨q, ps, e, h⟩ := h
  exact ⟨q, ps, e, h.below hb⟩
/-- what the iterator does to the world: it makes blocks, or writes a row of pointers or a number -/
def Stp (B0 : Nat) (A B : World) : Prop := ∃ row, A.grownBy B row ∧ ∀ r, row = some r → B0 ≤ r ∧ ∃ cells t, A.heap[r]? = some (.cells cells t (0, 0)) ∧ (t = 65 ∨ t = 66 ∨ t = 82)
theorem Stp.of_below {B0 : Nat} {A B : World} (h : Below A.heap.size A B) : Stp B0 A B := ⟨none, grown_of_below h none, fun r e => by cases e⟩
theorem Stp.of_num {B0 : Nat} {A B : World} {p : Nat} (hp : Slot A p) (hB : B0 ≤ p) (h : A.grownBy B (some p)) : Stp B0 A B := ⟨some p, h, fun r e => by
  cases e
  obtain ⟨b, s, hp⟩ := hp
  exact ⟨hB, _, _, hp, .inr (.inr rfl)⟩⟩
/-- the state of a round: all that lay below H is as it was in Wr, the row that is being made, and what the caller keeps -/
structure RSt (J : World → Prop) (Wr : World) (q : Nat) (ps vs : List Nat) (W : World) : Prop where
  below : Below Wr.heap.size Wr W
  row : NRow W q ps vs
  nodup : ps.Nodup
  hq : Wr.heap.size ≤ q
  hp : ∀ p ∈ ps, Wr.heap.size ≤ p
  j : J W
def Stable (B0 : Nat) (J : World → Prop) : Prop := ∀ A B, J A → Stp B0 A B → J B
theorem RSt.later {B0 : Nat} {J : World → Prop} (hJ : Stable B0 J) {Wr W W' : World} {q : Nat} {ps vs : List Nat} (h : RSt J Wr q ps vs W) (hb : Below W.heap.size W W') : RSt J Wr q ps vs W' :=
  ⟨h.below.trans (hb.mono h.below.size), h.row.below hb, h.nodup, h.hq, h.hp, hJ _ _ h.j (.of_below hb)⟩
theorem getD_mem {l : List Nat} {i : Nat} (h : i < l.length) : l.getD i 0 ∈ l := by simp [List.getD_eq_getElem?_getD, h]
theorem RSt.add {B0 : Nat} {J : World → Prop} (hJ : Stable B0 J) {Wr W W' : World} (hB0 : B0 ≤ Wr.heap.size) {q : Nat} {ps vs : List Nat} (h : RSt J Wr q ps vs W) {i v : Nat} (hi : i < vs.length) (hg : W.grownBy W' (some (ps.getD i 0))) (hn : Num W' (ps.getD i 0) v) : RSt J Wr q ps (vs.set i v) W' := by
  have hs := (h.row.num i hi).slot
  have hi' : i < ps.length := by rw [h.row.len]; exact hi
  have hpi := h.hp _ (getD_mem hi')
  refine ⟨⟨hg.os.trans h.below.os, hg.tape.trans h.below.tape, hg.output.trans h.below.output, Nat.le_trans h.below.size hg.size, fun b hb => ?_⟩, ⟨?_, by rw [List.length_set]; exact h.row.len, fun j hj => ?_⟩, h.nodup, h.hq, h.hp, hJ _ _ h.j (.of_num hs (Nat.le_trans hB0 hpi) hg)⟩
  · refine (hg.block b (by have := h.below.size; omega) (by rintro e; cases e; omega)).trans (h.below.block b hb)
  · have hr : W.heap[q]? = _ := h.row.row
    refine (hg.block q h.row.row.lt ?_).trans hr
    rintro e
    injection e with e
    obtain ⟨b, s, hs⟩ := hs
    rw [← e, hr] at hs
    injection hs with hs
    injection hs with _ h2
    cases h2
  · rw [List.length_set] at hj
    by_cases e : j = i
    · subst e
      rw [show (vs.set j v).getD j 0 = v by simp [List.getD_eq_getElem?_getD, hj]]
      exact hn
    · rw [show (vs.set i v).getD j 0 = vs.getD j 0 by simp [List.getD_eq_getElem?_getD, List.getElem?_set_ne (Ne.symm e)]]
      refine (h.row.num j hj).grown hs (fun e2 => e ?_) hg
      have hj' : j < ps.length := by rw [h.row.len]; exact hj
      simp only [List.getD_eq_getElem?_getD, List.getElem?_eq_getElem hj', List.getElem?_eq_getElem hi', Option.getD_some] at e2
      exact (List.getElem_inj h.nodup).1 e2
end Go.Proofs.Ytfopeenjpdaacaa.PC
end
section
set_option linter.unusedVariables false
set_option linter.unusedSimpArgs false
/- The rows of numbers that the iterator makes: how many good lists there are for each distance; plain. -/
namespace Go.Proofs.Ytfopeenjpdaacaa.PC
/-- the number of ways to choose i of n -/
def chairs_Spread.ch (n : Nat) : Nat → Nat
  | 0 => 1
  | i + 1 => chairs_Spread.ch n i * (n - i) / (i + 1)
/-- v is added to `many` places from i on -/
def chairs_Spread.adds (v : Nat) : Nat → Nat → List Nat → List Nat
  | 0, _, out => out
  | m + 1, i, out => chairs_Spread.adds v m (i + 1) (out.set i (out.getD i 0 + v))
/-- all pairs of distances of those before a chair and those after it -/
def chairs_Spread.ys (v m a : Nat) : List Nat → Nat → List Nat → List Nat
  | [], _, out => out
  | y :: r, b, out => chairs_Spread.ys v m a r (b + 1) (chairs_Spread.adds (v * y) m (a + b) out)
def chairs_Spread.xs (v m : Nat) (after : List Nat) : List Nat → Nat → List Nat → List Nat
  | [], _, out => out
  | x :: r, a, out => chairs_Spread.xs v m after r (a + 1) (chairs_Spread.ys (v * x) m a after 0 out)
def chairs_Spread.befs (known : List (List Nat)) (size : Nat) : Nat → Nat → List Nat → List Nat
  | 0, _, out => out
  | d + 1, before, out => chairs_Spread.befs known size d (before + 1) (chairs_Spread.xs (chairs_Spread.ch (size - 1) before) (before + 1) (known.getD (size - 1 - before) []) (known.getD before []) 0 out)
def chairs_Spread.row (known : List (List Nat)) (size : Nat) : List Nat :=
  chairs_Spread.befs known size size 0 (List.replicate (size * (size - 1) / 2 + 1) 0)
def chairs_Spread.known : Nat → List (List Nat)
  | 0 => [[1]]
  | n + 1 => chairs_Spread.known n ++ [chairs_Spread.row (chairs_Spread.known n) (n + 1)]
namespace MSpread
open chairs_Spread
/-- the one row is at most the other one, place by place -/
def Le2 (a b : List Nat) : Prop := a.length = b.length ∧ ∀ i, a.getD i 0 ≤ b.getD i 0
theorem Le2.refl (a : List Nat) : Le2 a a := ⟨rfl, fun _ => Nat.le_refl _⟩
theorem Le2.trans {a b c : List Nat} (h : Le2 a b) (k : Le2 b c) : Le2 a c := ⟨h.1.trans k.1, fun i => Nat.le_trans (h.2 i) (k.2 i)⟩
theorem set_le (out : List Nat) (i v : Nat) : Le2 out (out.set i (out.getD i 0 + v)) := by
  refine ⟨by simp, fun j => ?_⟩
  by_cases e : j = i
  · subst e
    by_cases hj : j < out.length
    · simp [List.getD_eq_getElem?_getD, hj]
    · simp [List.getD_eq_getElem?_getD, hj]
  · simp [List.getD_eq_getElem?_getD, List.getElem?_set_ne (Ne.symm e)]
theorem adds_le (v m : Nat) : ∀ (i : Nat) (out : List Nat), Le2 out (adds v m i out) := by
  induction m with
  | zero => exact fun _ out => Le2.refl out
  | succ m ih => exact fun i out => (set_le out i v).trans (ih _ _)
theorem adds_ge (v m i : Nat) (out : List Nat) (hi : i < out.length) : v ≤ (adds v (m + 1) i out).getD i 0 := by
  have h := (adds_le v m (i + 1) (out.set i (out.getD i 0 + v))).2 i
  rw [show (out.set i (out.getD i 0 + v)).getD i 0 = out.getD i 0 + v by simp [List.getD_eq_getElem?_getD, hi]] at h
  exact Nat.le_trans (Nat.le_add_left _ _) h
theorem ys_le (v m a : Nat) (l : List Nat) : ∀ (b : Nat) (out : List Nat), Le2 out (ys v m a l b out) := by
  induction l with
  | nil => exact fun _ out => Le2.refl out
  | cons y l ih => exact fun b out => (adds_le _ _ _ _).trans (ih _ _)
theorem xs_le (v m : Nat) (after l : List Nat) : ∀ (a : Nat) (out : List Nat), Le2 out (xs v m after l a out) := by
  induction l with
  | nil => exact fun _ out => Le2.refl out
  | cons y l ih => exact fun b out => (ys_le _ _ _ _ _ _).trans (ih _ _)
theorem befs_le (known : List (List Nat)) (size d : Nat) : ∀ (before : Nat) (out : List Nat), Le2 out (befs known size d before out) := by
  induction d with
  | zero => exact fun _ out => Le2.refl out
  | succ d ih => exact fun b out => (xs_le _ _ _ _ _ _).trans (ih _ _)
theorem known_length (n : Nat) : (known n).length = n + 1 := by
  induction n with
  | zero => rfl
  | succ n ih => simp [known, ih]
/-- the rows that the program makes, all of them -/
def lit : List (List Nat) := [[1], [1], [2, 1], [6, 6, 3, 1], [24, 36, 30, 20, 10, 4, 1], [120, 240, 270, 240, 180, 120, 70, 35, 15, 5, 1], [720, 1800, 2520, 2730, 2520, 2100, 1610, 1140, 750, 455, 252, 126, 56, 21, 6, 1], [5040, 15120, 25200, 31920, 34230, 32970, 29400, 24640, 19600, 14840, 10696, 7336, 4781, 2947, 1708, 924, 462, 210, 84, 28, 7, 1], [40320, 141120, 272160, 393120, 476280, 514080, 511560, 478800, 427140, 365960, 302344, 241416, 186522, 139440, 100800, 70392, 47418, 30744, 19124, 11368, 6426, 3432, 1716, 792, 330, 120, 36, 8, 1], [362880, 1451520, 3175200, 5140800, 6917400, 8225280, 8961120, 9147600, 8883000, 8288700, 7480620, 6558300, 5600910, 4667040, 3797640, 3018960, 2344860, 1779120, 1317960, 952560, 671076, 460284, 306900, 198540, 124320, 75132, 43668, 24300, 12870, 6435, 3003, 1287, 495, 165, 45, 9, 1], [3628800, 16329600, 39916800, 71517600, 105613200, 136798200, 161330400, 177408000, 184892400, 184707600, 178295040, 167246100, 153072360, 137082330, 120346380, 103705140, 87789240, 73042200, 59745840, 48048000, 37988412, 29522790, 22545720, 16911720, 12453540, 8996922, 6371640, 4419360, 2998710, 1987920, 1285482, 809325, 495000, 293325, 167850, 92367, 48620, 24310, 11440, 5005, 2002, 715, 220, 55, 10, 1]]
set_option maxRecDepth 1000000 in
theorem known_lit : known 10 = lit := by decide +kernel
theorem known_take (n k : Nat) : (known (n + k)).take (n + 1) = known n := by
  induction k with
  | zero => exact List.take_of_length_le (by rw [known_length]; exact Nat.le_refl _)
  | succ k ih =>
    show (known (n + k) ++ _).take (n + 1) = _
    rw [List.take_append_of_le_length (by rw [known_length]; omega)]
    exact ih
theorem known_of {n : Nat} (h : n ≤ 10) : known n = lit.take (n + 1) := by
  rw [← known_lit, ← known_take n (10 - n), show n + (10 - n) = 10 by omega]
theorem row_of {n : Nat} (h : n < 10) : row (known n) (n + 1) = lit.getD (n + 1) [] := by
  have h1 : known (n + 1) = lit.take (n + 2) := known_of (by omega)
  have h2 : (known (n + 1)).getD (n + 1) [] = row (known n) (n + 1) := by
    have := known_length n
    simp [known, List.getD_eq_getElem?_getD, ← this]
  rw [← h2, h1]
  simp [List.getD_eq_getElem?_getD]
theorem all_small {n : Nat} (h : n < 10) : ∀ x ∈ row (known n) (n + 1), x < 4294967296 := by
  rw [row_of h]
  exact (by decide +kernel : ∀ n, n < 10 → ∀ x ∈ lit.getD (n + 1) [], x < 4294967296) n h
theorem all_len {n : Nat} (h : n < 11) : ∀ i, i < n + 1 → ((known n).getD i []).length = i * (i - 1) / 2 + 1 := by
  rw [known_of (by omega)]
  exact (by decide +kernel : ∀ n, n < 11 → ∀ i, i < n + 1 → ((lit.take (n + 1)).getD i []).length = i * (i - 1) / 2 + 1) n h
theorem row_len {n : Nat} (h : n < 10) : (row (known n) (n + 1)).length ≤ 46 := by
  rw [row_of h]
  exact (by decide +kernel : ∀ n, n < 10 → (lit.getD (n + 1) []).length ≤ 46) n h
theorem fit : ∀ n, n < 11 → ∀ before, before < n → before * (before - 1) / 2 + (n - 1 - before) * (n - 1 - before - 1) / 2 + before ≤ n * (n - 1) / 2 := by decide +kernel
theorem ch_small : ∀ n, n < 10 → ∀ k, k < n + 1 → 1 ≤ ch n k ∧ ch n k ≤ 126 := by decide +kernel
theorem Le2.lt {a b : List Nat} (h : Le2 a b) {N : Nat} (hN : 0 < N) (hb : ∀ x ∈ b, x < N) (i : Nat) : a.getD i 0 < N := by
  refine Nat.lt_of_le_of_lt (h.2 i) ?_
  rw [List.getD_eq_getElem?_getD]
  by_cases hi : i < b.length
  · rw [List.getElem?_eq_getElem hi]; exact hb _ (List.getElem_mem hi)
  · rw [List.getElem?_eq_none (by omega)]; exact hN
/-- what the walk wants of a round's numbers: they are small, and the places lie in the row -/
theorem sizes {s b af : Nat} (hs : s < 11) (h : af + b + 1 = s) : ((known (s - 1)).getD b []).length + ((known (s - 1)).getD af []).length + b ≤ s * (s - 1) / 2 + 2 ∧ ((known (s - 1)).getD b []).length ≤ 46 ∧ ((known (s - 1)).getD af []).length ≤ 46 := by
  have h1 := all_len (n := s - 1) (by omega) b (by omega)
  have h2 := all_len (n := s - 1) (by omega) af (by omega)
  have h3 := fit s hs b (by omega)
  have h4 : b * (b - 1) ≤ 90 := Nat.mul_le_mul (show b ≤ 10 by omega) (show b - 1 ≤ 9 by omega)
  have h5 : af * (af - 1) ≤ 90 := Nat.mul_le_mul (show af ≤ 10 by omega) (show af - 1 ≤ 9 by omega)
  rw [show s - 1 - b = af by omega] at h3
  omega
end MSpread
end Go.Proofs.Ytfopeenjpdaacaa.PC
end
section
set_option linter.unusedVariables false
set_option linter.unusedSimpArgs false
/- The number of ways to choose, below 10. -/
namespace Go.Proofs.Ytfopeenjpdaacaa.PC
open Go.RowKit Go.Proofs.YtfopeenjpdaacaaW.PrintWords Go.Proofs.YtfopeenjpdaacaaW.PrintLast Go.Proofs.YtfopeenjpdaacaaW.PrintMore
set_option maxHeartbeats 400000 in
theorem choose_walk (n i : Nat) (hn : n < 10) (hi : i ≤ n) (w : World) :
    Calls Try.prog 71 #[.int .i64 (n : Int), .int .i64 (i : Int)] w fun e w' => e = .returned (.int .i64 ((chairs_Spread.ch n i : Nat) : Int)) ∧ w = w' := by
  go_enter Try.func71, Try.ntmps71
  go_wp2
  go_loop [5, 8] (fun o k => ∃ q : Nat, q ≤ i ∧ k = .int .i64 (q : Int) ∧ o = .int .i64 ((chairs_Spread.ch n q : Nat) : Int)) (fun _ k => i - (intOf k).toNat)
  case atStart => exact ⟨0, Nat.zero_le _, rfl, rfl⟩
  case round =>
    obtain ⟨q, hq, rfl, rfl⟩ := hrel
    by_cases hlt : q < i
    · have d1 : decide ((q : Int) < (i : Int)) = true := decide_eq_true (by omega)
      obtain ⟨c, hc⟩ : ∃ c, chairs_Spread.ch n q = c := ⟨_, rfl⟩
      have hb := MSpread.ch_small n hn q (by omega)
      have hs : chairs_Spread.ch n (q + 1) = c * (n - q) / (q + 1) := by rw [← hc]; rfl
      rw [hc] at hb ⊢
      obtain ⟨m, hm⟩ : ∃ m : Int, (n : Int) - (q : Int) = m := ⟨_, rfl⟩
      have hm0 : 0 ≤ m := by omega
      have hm1 : m ≤ 9 := by omega
      have hcm : (c : Int) * m = ((c * (n - q) : Nat) : Int) := by rw [← hm, Int.natCast_mul]; congr 1; omega
      obtain ⟨p, hp⟩ : ∃ p : Int, (c : Int) * m = p := ⟨_, rfl⟩
      have hp0 : 0 ≤ p := by rw [← hp]; exact Int.mul_nonneg (by omega) hm0
      have hp1 : p ≤ 1134 := by
        have h1 := Int.mul_le_mul (show (c : Int) ≤ 126 by omega) hm1 hm0 (by omega)
        omega
      have hpd : ((c * (n - q) / (q + 1) : Nat) : Int) = p / ((q : Int) + 1) := by rw [← hp, hcm]; rfl
      have HD : Hid (((chairs_Spread.ch n (q + 1) : Nat) : Int) = p / ((q : Int) + 1)) := Lib.hid (by rw [hs]; exact hpd)
      have hd0 : 0 ≤ p / ((q : Int) + 1) := Int.ediv_nonneg hp0 (by omega)
      have hd1 : p / ((q : Int) + 1) ≤ 1134 := Int.le_trans (Int.ediv_le_self _ hp0) hp1
      have hne : ((q : Int) + 1 == 0) = false := beq_eq_false_iff_ne.2 (by omega)
      have hne2 : ¬ ((q : Int) + 1 = 0) := by omega
      clear hc hs hcm hpd
      go_wp2
      go_round
      case rel => exact ⟨q + 1, by omega, by go_num, by rw [HD.out]⟩
      case measure => simp [intOf]; omega
    · obtain rfl : q = i := by omega
      have d1 : decide ((q : Int) < (q : Int)) = false := decide_eq_false (by omega)
      go_wp2
      go_ret
      exact ⟨rfl, rfl⟩
end Go.Proofs.Ytfopeenjpdaacaa.PC
end
section
set_option linter.unusedVariables false
set_option linter.unusedSimpArgs false
/- A row of new numbers: how it is made; and the rows that are known. -/
namespace Go.Proofs.Ytfopeenjpdaacaa.PC
open Go.RowKit Go.Proofs.YtfopeenjpdaacaaW.PrintWords Go.Proofs.YtfopeenjpdaacaaW.PrintLast Go.Proofs.YtfopeenjpdaacaaW.PrintMore
/-- the row of M new numbers, of which those of ps are there -/
structure ISt (J : World → Prop) (Wr : World) (q M : Nat) (ps : List Nat) (W : World) : Prop where
  below : Below Wr.heap.size Wr W
  row : W.heap[q]? = some (.cells (ps.map ptr ++ List.replicate (M - ps.length) (Value.pointer none)).toArray 66 (0, 0))
  num : ∀ p ∈ ps, Num W p 0
  nodup : ps.Nodup
  hq : Wr.heap.size ≤ q
  hp : ∀ p ∈ ps, Wr.heap.size ≤ p
  hM : ps.length ≤ M
  j : J W
theorem made_ptr (M : Nat) : madeCells #[Value.pointer none] M = (List.replicate M (Value.pointer none)).toArray := by
  apply Array.ext
  · simp [madeCells]
  · intro i h1 h2
    simp [madeCells, Nat.mod_one]
theorem ISt.start {B0 : Nat} {J : World → Prop} (hJ : Stable B0 J) (Wr : World) (M : Nat) (h0 : J Wr) : ISt J Wr Wr.heap.size M [] (Wr.alloc (.cells (madeCells #[.pointer none] M) 66)) where
  below := (Below.refl _ _).alloc (Nat.le_refl _) _
  row := by rw [heap_alloc_new, made_ptr]; simp
  num := fun p hp => by cases hp
  nodup := List.nodup_nil
  hq := Nat.le_refl _
  hp := fun p hp => by cases hp
  hM := Nat.zero_le _
  j := hJ _ _ h0 (.of_below ((Below.refl _ _).alloc (Nat.le_refl _) _))
theorem ISt.cell {J : World → Prop} {Wr W : World} {q M : Nat} {ps : List Nat} (h : ISt J Wr q M ps W) (hi : ps.length < M) : W.cell? ⟨q, ps.length, none⟩ = some (.pointer none) ∧ W.frozen? ⟨q, ps.length, none⟩ = false := by
  constructor
  · obtain ⟨d, hd⟩ : ∃ d, M - ps.length = d + 1 := ⟨M - ps.length - 1, by omega⟩
    simp [World.cell?, h.row, hd, List.replicate_succ]
  · simp [World.frozen?, h.row]
theorem ISt.step {B0 : Nat} {J : World → Prop} (hJ : Stable B0 J) {Wr W : World} (hB0 : B0 ≤ Wr.heap.size) {q M : Nat} {ps : List Nat} (h : ISt J Wr q M ps W) (hi : ps.length < M) :
    ISt J Wr q M (ps ++ [W.heap.size]) ((W.alloc (.cells #[.bool false, .slice none 0 0] 82)).setCell ⟨q, ps.length, none⟩ (ptr W.heap.size)) := by
  obtain ⟨W1, hW1⟩ : ∃ W1, W.alloc (.cells #[.bool false, .slice none 0 0] 82) = W1 := ⟨_, rfl⟩
  have hb1 : Below W.heap.size W W1 := by rw [← hW1]; exact (Below.refl _ _).alloc (Nat.le_refl _) _
  have hs1 : W1.heap.size = W.heap.size + 1 := by rw [← hW1]; simp
  have hn1 : W1.heap[W.heap.size]? = some (.cells #[.bool false, .slice none 0 0] 82 (0, 0)) := by rw [← hW1]; exact heap_alloc_new _ _
  have hq := block_lt' h.row
  have hr1 := (hb1.block q hq).trans h.row
  have hg := grown_set W1 q ps.length (ptr W.heap.size)
  have hst : Stp B0 W1 (W1.setCell ⟨q, ps.length, none⟩ (ptr W.heap.size)) := ⟨_, hg, fun r e => by cases e; exact ⟨Nat.le_trans hB0 h.hq, _, _, hr1, .inr (.inl rfl)⟩⟩
  have keep : ∀ b, b ≠ q → (W1.setCell ⟨q, ps.length, none⟩ (ptr W.heap.size)).heap[b]? = W1.heap[b]? := fun b hb => Below.heap_setCell W1 _ _ b hb
  have dig : ∀ {s : Value} {v : Nat}, Dig W1 s v → Dig (W1.setCell ⟨q, ps.length, none⟩ (ptr W.heap.size)) s v := fun hd => hd.same fun g cells hc => keep g (by
    rintro rfl
    rw [hr1] at hc
    injection hc with hc
    injection hc with _ h2
    cases h2)
  have nonew : W.heap.size ∉ ps := fun hm => by have := (h.num _ hm).lt; omega
  rw [hW1]
  refine ⟨?_, ?_, ?_, ?_, h.hq, ?_, by simp; omega, hJ _ _ (hJ _ _ h.j (.of_below hb1)) hst⟩
  · exact (h.below.trans (hb1.mono h.below.size)).setCell (p := ⟨q, ps.length, none⟩) h.hq _
  · rw [heap_set hr1]
    congr 2
    obtain ⟨d, hd⟩ : ∃ d, M - ps.length = d + 1 := ⟨M - ps.length - 1, by omega⟩
    have hd2 : M - (ps ++ [W.heap.size]).length = d := by simp; omega
    rw [hd, hd2, List.replicate_succ]
    simp
  · intro p hp
    rw [List.mem_append] at hp
    rcases hp with hp | hp
    · obtain ⟨s, h1, h2⟩ := (h.num p hp).below hb1
      exact ⟨s, (keep p (by
        rintro rfl
        rw [hr1] at h1
        injection h1 with h1
        injection h1 with _ h2
        cases h2)).trans h1, dig h2⟩
    · rw [List.mem_singleton] at hp
      subst hp
      exact ⟨_, (keep _ (by omega)).trans hn1, .inl ⟨rfl, _, _, rfl, by omega⟩⟩
  · rw [List.nodup_append]
    refine ⟨h.nodup, by simp, ?_⟩
    intro a ha b hb e
    rw [List.mem_singleton] at hb
    exact nonew (by rw [← hb, ← e]; exact ha)
  · intro p hp
    rw [List.mem_append] at hp
    rcases hp with hp | hp
    · exact h.hp p hp
    · rw [List.mem_singleton] at hp
      have := h.below.size
      omega
theorem ISt.step' {B0 : Nat} {J : World → Prop} (hJ : Stable B0 J) {Wr W : World} (hB0 : B0 ≤ Wr.heap.size) {q M : Nat} {ps : List Nat} (h : ISt J Wr q M ps W) (hi : ps.length < M) :
    ISt J Wr q M (ps ++ [W.heap.size]) ((W.setCell ⟨q, ps.length, none⟩ (.pointer (some ⟨W.heap.size, 0, none⟩))).alloc (.cells #[.bool false, .slice none 0 0] 82)) := by
  have := h.step hJ hB0 hi
  rw [World.setCell_alloc_past _ _ _ _ (block_lt' h.row)] at this
  exact this
theorem ISt.done {J : World → Prop} {Wr W : World} {q M : Nat} {ps : List Nat} (h : ISt J Wr q M ps W) (hl : ps.length = M) : RSt J Wr q ps (List.replicate M 0) W where
  below := h.below
  row := ⟨by
    have := h.row
    rw [hl, Nat.sub_self] at this
    simpa [PRow] using this, by simp [hl], fun i hi => by
    rw [List.length_replicate] at hi
    rw [show (List.replicate M 0).getD i 0 = 0 by simp [List.getD_eq_getElem?_getD, hi]]
    exact h.num _ (getD_mem (by omega))⟩
  nodup := h.nodup
  hq := h.hq
  hp := h.hp
  j := h.j
/-- the rows that are known -/
def KnV (B0 : Nat) (W : World) (kv : Value) (rows : List (List Nat)) : Prop := ∃ vals : List Value, W.ownsRow B0 65 1 kv rows.length vals ∧ ∀ i, i < rows.length → RowV W (vals.getD i undef) (rows.getD i [])
theorem KnV.below {B0 : Nat} {W W' : World} {kv : Value} {rows : List (List Nat)} (h : KnV B0 W kv rows) (hb : Below W.heap.size W W') : KnV B0 W' kv rows := by
  obtain ⟨vals, h1, h2⟩ := h
  exact ⟨vals, pw_own_below h1 hb, fun i hi => (h2 i hi).below hb⟩
theorem KnV.start {B0 : Nat} {w' : World} {p0 : Nat} (h : Num w' p0 1) (hB0 : B0 ≤ w'.heap.size) : KnV B0 ((w'.alloc (.cells #[.pointer (some ⟨p0, 0, none⟩)] 66)).alloc (.cells #[.slice (some ⟨w'.heap.size, 0, none⟩) 1 1] 65)) (.slice (some ⟨w'.heap.size + 1, 0, none⟩) 1 1) [[1]] := by
  obtain ⟨W1, hW1⟩ : ∃ W1, w'.alloc (.cells #[.pointer (some ⟨p0, 0, none⟩)] 66) = W1 := ⟨_, rfl⟩
  have hb1 : Below w'.heap.size w' W1 := by rw [← hW1]; exact (Below.refl _ _).alloc (Nat.le_refl _) _
  have hs1 : W1.heap.size = w'.heap.size + 1 := by rw [← hW1]; simp
  have hn1 : W1.heap[w'.heap.size]? = some (.cells #[.pointer (some ⟨p0, 0, none⟩)] 66 (0, 0)) := by rw [← hW1]; exact heap_alloc_new _ _
  rw [hW1]
  refine ⟨[.slice (some ⟨w'.heap.size, 0, none⟩) 1 1], ?_, fun i hi => ?_⟩
  · have := World.ownsRow_lit (base := B0) (e := 65) (size := 1) W1 #[.slice (some ⟨w'.heap.size, 0, none⟩) 1 1] 1 (by omega) (by simp [maxLen]) (by simp)
    rw [hs1] at this
    exact this
  · simp only [List.length_cons, List.length_nil] at hi
    obtain rfl : i = 0 := by omega
    refine ⟨w'.heap.size, [p0], rfl, ?_⟩
    refine NRow.below (W := W1) ⟨hn1, rfl, fun j hj => ?_⟩ ((Below.refl _ _).alloc (Nat.le_refl _) _)
    simp only [List.length_cons, List.length_nil, List.getD_cons_zero] at hj
    obtain rfl : j = 0 := by omega
    exact h.below hb1
theorem KnV.form {B0 : Nat} {W : World} {kv : Value} {rows : List (List Nat)} (h : KnV B0 W kv rows) (hr : 0 < rows.length) : ∃ g cap, kv = .slice (some ⟨g, 0, none⟩) rows.length cap := by
  obtain ⟨vals, h1, h2⟩ := h
  obtain ⟨g, cap, e, _⟩ := h1.form hr
  exact ⟨g, cap, e⟩
/-- a row that is known: its place in the table, and its pointers -/
theorem KnV.at_ {B0 : Nat} {W : World} {g n cap : Nat} {rows : List (List Nat)} (h : KnV B0 W (.slice (some ⟨g, 0, none⟩) n cap) rows) (i : Nat) (hi : i < rows.length) :
    ∃ q ps, W.cell? ⟨g, i, none⟩ = some (.slice (some ⟨q, 0, none⟩) (rows.getD i []).length (rows.getD i []).length) ∧ NRow W q ps (rows.getD i []) := by
  obtain ⟨vals, h1, h2⟩ := h
  obtain ⟨q, ps, e, hn⟩ := h2 i hi
  refine ⟨q, ps, ?_, hn⟩
  have hl : vals.length = rows.length := by have := h1.1; omega
  have := h1.cells (g := g) rfl i (vals.getD i undef) (by simp [List.getD_eq_getElem?_getD, hl, hi])
  rw [add_plain] at this
  rw [this, e]
theorem RSt.kn {B0 : Nat} {J : World → Prop} {Wr W : World} {q : Nat} {ps vs : List Nat} (h : RSt J Wr q ps vs W) {kv : Value} {rows : List (List Nat)} (hK : KnV B0 Wr kv rows) : KnV B0 W kv rows := hK.below h.below
theorem RSt.notin {J : World → Prop} {Wr W : World} {q : Nat} {ps vs : List Nat} (h : RSt J Wr q ps vs W) {p : Nat} (hp : W.heap.size ≤ p) : p ∉ ps := fun hm => by
  obtain ⟨i, hi, rfl⟩ := List.getElem_of_mem hm
  have := (h.row.num i (by rw [← h.row.len]; exact hi)).lt
  simp only [List.getD_eq_getElem?_getD, List.getElem?_eq_getElem hi, Option.getD_some] at this
  omega
/-- two new numbers -/
abbrev zero82 : Obj := .cells #[.bool false, .slice none 0 0] 82
theorem two_new (w : World) : Slot ((w.alloc zero82).alloc zero82) w.heap.size ∧ Slot ((w.alloc zero82).alloc zero82) (w.heap.size + 1) ∧ Below w.heap.size w ((w.alloc zero82).alloc zero82) := by
  have h1 := heap_alloc_new w zero82
  have h2 := heap_alloc_new (w.alloc zero82) zero82
  have hs : (w.alloc zero82).heap.size = w.heap.size + 1 := by simp
  rw [hs] at h2
  refine ⟨⟨_, _, (Below.heap_alloc _ _ _ (by omega)).trans h1⟩, ⟨_, _, h2⟩, ((Below.refl _ _).alloc (Nat.le_refl _) _).alloc (by omega) _⟩
theorem below_num {B : Nat} {w w1 w2 : World} {p : Nat} (h : Below B w w1) (hB : B ≤ p) (hg : w1.grownBy w2 (some p)) (hw : B ≤ w.heap.size) : Below B w w2 :=
  ⟨hg.os.trans h.os, hg.tape.trans h.tape, hg.output.trans h.output, Nat.le_trans h.size hg.size, fun k hk => (hg.block k (by have := h.size; omega) (by rintro e; cases e; omega)).trans (h.block k hk)⟩
theorem Slot.grown {W W' : World} {p z : Nat} (h : Slot W p) (hne : p ≠ z) (hg : W.grownBy W' (some z)) : Slot W' p := by
  obtain ⟨b, s, h1⟩ := h
  exact ⟨b, s, (hg.block p (block_lt' h1) (by rintro e; cases e; exact hne rfl)).trans h1⟩
theorem choose_at (n i c : Nat) (hn : n < 10) (hi : i ≤ n) (hc : chairs_Spread.ch n i = c) (w : World) :
    Calls Try.prog 71 #[.int .i64 (n : Int), .int .i64 (i : Int)] w fun e w' => e = .returned (.int .i64 (c : Int)) ∧ w = w' := by
  rw [← hc]; exact choose_walk n i hn hi w
/-- a step that writes one block of a type leaves what is of other types -/
def Keep65 (W W' : World) : Prop := ∀ (r : Nat) (cells : Array Value) (t : Nat), W.heap[r]? = some (.cells cells t (0, 0)) → t = 66 ∨ t = 82 ∨ t = 92 → W'.heap[r]? = W.heap[r]?
theorem NRow.keep {W W' : World} {q : Nat} {ps vs : List Nat} (h : NRow W q ps vs) (k : Keep65 W W') : NRow W' q ps vs := by
  refine ⟨(k q _ _ h.row (.inl rfl)).trans h.row, h.len, fun i hi => ?_⟩
  obtain ⟨s, h1, h2⟩ := h.num i hi
  exact ⟨s, (k _ _ _ h1 (.inr (.inl rfl))).trans h1, h2.same fun g cells hc => k g cells 92 hc (.inr (.inr rfl))⟩
theorem RowV.keep {W W' : World} {v : Value} {vs : List Nat} (h : RowV W v vs) (k : Keep65 W W') : RowV W' v vs := by
  obtain ⟨q, ps, e, hn⟩ := h
  exact ⟨q, ps, e, hn.keep k⟩
theorem keep_of_own {W W' : World} {kv : Value} {n : Nat} {vals : List Value} {b : Nat} (h : W.ownsRow b 65 1 kv n vals) (hg : W.grownBy W' kv.ownBlock) : Keep65 W W' := fun r cells t hr ht => by
  refine hg.block r (block_lt' hr) fun e => ?_
  obtain ⟨cells', hc⟩ := own_typed h r e.symm
  rw [hr] at hc
  injection hc with hc
  injection hc with _ h2
  rw [h2] at ht
  rcases ht with ht | ht | ht <;> cases ht
theorem stp_of_own {W W' : World} {kv : Value} {n : Nat} {vals : List Value} {b : Nat} (h : W.ownsRow b 65 1 kv n vals) (hg : W.grownBy W' kv.ownBlock) : Stp b W W' := ⟨_, hg, fun r e => by
  obtain ⟨cells', hc⟩ := own_typed h r e
  exact ⟨own_base h r e, _, _, hc, .inl rfl⟩⟩
/-- the table of rows with one row more -/
theorem KnV.snoc {B0 : Nat} {W W1 : World} {kv v1 y : Value} {rows : List (List Nat)} {vals : List Value} {F : List Nat} (h1 : W.ownsRow B0 65 1 kv rows.length vals) (h2 : ∀ i, i < rows.length → RowV W (vals.getD i undef) (rows.getD i [])) (hy : RowV W y F)
    (hg : W.grownBy W1 kv.ownBlock) (ho : W1.ownsRow B0 65 1 v1 (vals ++ [y]).length (vals ++ [y])) : KnV B0 W1 v1 (rows ++ [F]) := by
  have hl : vals.length = rows.length := by have := h1.1; omega
  have hk := keep_of_own h1 hg
  refine ⟨vals ++ [y], by rw [List.length_append, ← hl] ; simpa using ho, fun i hi => ?_⟩
  by_cases e : i < rows.length
  · rw [show (vals ++ [y]).getD i undef = vals.getD i undef by simp [List.getD_eq_getElem?_getD, List.getElem?_append, hl, e], show (rows ++ [F]).getD i [] = rows.getD i [] by simp [List.getD_eq_getElem?_getD, List.getElem?_append, e]]
    exact (h2 i e).keep hk
  · rw [List.length_append, List.length_singleton] at hi
    obtain rfl : i = rows.length := by omega
    rw [show (vals ++ [y]).getD rows.length undef = y by simp [List.getD_eq_getElem?_getD, ← hl], show (rows ++ [F]).getD rows.length [] = F by simp [List.getD_eq_getElem?_getD]]
    exact hy.keep hk
theorem RSt.rowv {J : World → Prop} {Wr W : World} {q : Nat} {ps vs : List Nat} (h : RSt J Wr q ps vs W) (i : Nat) (hi : ps.length = i) : RowV W (.slice (some ⟨q, 0, none⟩) i i) vs := ⟨q, ps, by rw [← hi, h.row.len], h.row⟩
end Go.Proofs.Ytfopeenjpdaacaa.PC
end
section
set_option linter.unusedVariables false
set_option linter.unusedSimpArgs false
/- The iterator over rows of numbers: its closure hands out the rows one after the other. -/
namespace Go.Proofs.Ytfopeenjpdaacaa.PC
open Go.RowKit Go.Proofs.YtfopeenjpdaacaaW.PrintWords Go.Proofs.YtfopeenjpdaacaaW.PrintLast Go.Proofs.YtfopeenjpdaacaaW.PrintMore
/-- what a round of the caller keeps -/
structure KpM (Bs : Nat) (A B : World) : Prop where
  size : A.heap.size ≤ B.heap.size
  box : B.heap[Bs]? = A.heap[Bs]?
  same : ∀ (r : Nat) (cells : Array Value) (t : Nat), A.heap[r]? = some (.cells cells t (0, 0)) → t = 65 ∨ t = 66 ∨ t = 82 ∨ t = 92 → B.heap[r]? = A.heap[r]?
def MovesYield (l Bs n : Nat) (J : Nat → World → Prop) : Prop := ∀ (k : Nat) (v : Value) (W1 : World), J k W1 → k < n → RowV W1 v (chairs_Spread.row (chairs_Spread.known k) (k + 1)) → YieldAt Fence.wide 3 Try.prog l #[v] W1 fun e W' => e = .returned (.bool true) ∧ J (k + 1) W' ∧ KpM Bs W1 W'
theorem KnV.kp {B0 : Nat} {A B : World} {Bs : Nat} {kv : Value} {rows : List (List Nat)} (h : KnV B0 A kv rows) (k : KpM Bs A B) : KnV B0 B kv rows := by
  obtain ⟨vals, h1, h2⟩ := h
  refine ⟨vals, own_move h1 (fun r hr => ?_), fun i hi => (h2 i hi).keep fun r cells t hr ht => k.same r cells t hr (.inr ht)⟩
  obtain ⟨cells, hc⟩ := own_typed h1 r hr
  exact k.same r cells 65 hc (.inl rfl)
theorem info65 : (Try.prog.info? 65).map (fun i => (i.zero, i.size, i.bytes)) = some (some (.slice none 0 0), 1, 24) := by kernel_rfl
/-- the state at the head of the outer loop -/
structure LSt (B0 : Nat) (J : Nat → World → Prop) (Bs n k : Nat) (kv : Value) (W : World) : Prop where
  size : B0 ≤ W.heap.size
  known : KnV B0 W kv (chairs_Spread.known k)
  j : J k W
  box : W.heap[Bs]? = some (.cells #[.int .i64 (n : Int)] 3 (0, 0))
set_option maxRecDepth 1000000 in
set_option maxHeartbeats 4000000 in
theorem moves_in (l Bs n : Nat) (hn : n ≤ 10) (W : World) (J : Nat → World → Prop) (hJ : ∀ k, Stable W.heap.size (J k)) (hB : W.heap[Bs]? = some (.cells #[.int .i64 (n : Int)] 3 (0, 0))) (hY : MovesYield l Bs n J) (h0 : J 0 W) :
    CallsIn Fence.wide 4 Try.prog 69 #[.func (.yield l) #[] #[], .pointer (some ⟨Bs, 0, none⟩)] W fun e W' => (∃ v, e = .returned v) ∧ J n W' := by
  have HJ := Lib.hid hJ
  have HY := Lib.hid hY
  have H0 := Lib.hid h0
  have HB := Lib.hid hB
  clear hJ hY h0 hB
  refine callsIn_wide.2 ?_
  go_enter Try.func69, Try.ntmps69
  go_wp2_with (go_at_call 70; refine (NewInt_walk 1 (by omega) _).mono ?_; rintro e w' ⟨p0, rfl, hp0, hp1, hb0⟩; have HP0 := Lib.hid hp0; have HP1 := Lib.hid hp1; have HB0 := Lib.hid hb0; clear hp0 hp1 hb0)
  have hK0 := KnV.start (B0 := W.heap.size) HP1.out HB0.out.size
  have hb1 : Below W.heap.size W ((w'.alloc (.cells #[.pointer (some ⟨p0, 0, none⟩)] 66)).alloc (.cells #[.slice (some ⟨w'.heap.size, 0, none⟩) 1 1] 65)) := ((HB0.out.alloc HB0.out.size _).alloc (by have := HB0.out.size; simp; omega) _)
  have hL0 : LSt W.heap.size J Bs n 0 (.slice (some ⟨w'.heap.size + 1, 0, none⟩) 1 1) ((w'.alloc (.cells #[.pointer (some ⟨p0, 0, none⟩)] 66)).alloc (.cells #[.slice (some ⟨w'.heap.size, 0, none⟩) 1 1] 65)) :=
    ⟨hb1.size, hK0, HJ.out 0 _ _ H0.out (.of_below hb1), (hb1.block Bs (block_lt' HB.out)).trans HB.out⟩
  have HL0 := Lib.hid hL0
  clear hK0 hb1 hL0
  go_loopw [3, 4] (fun kv sz wr => ∃ s g cap : Nat, 1 ≤ s ∧ s ≤ n + 1 ∧ sz = .int .i64 (s : Int) ∧ kv = .slice (some ⟨g, 0, none⟩) s cap ∧ LSt W.heap.size J Bs n (s - 1) kv wr) (fun _ sz _ => n + 1 - (intOf sz).toNat)
  case atStart => exact ⟨1, _, _, by omega, by omega, rfl, rfl, HL0.out⟩
  case round =>
    obtain ⟨s, g, cap, hs1, hs2, rfl, rfl, hL⟩ := hrel
    have hBc : wr.cell? ⟨Bs, 0, none⟩ = some (.int .i64 (n : Int)) := by
      have := hL.box
      simp [World.cell?, this]
    have HL := Lib.hid hL
    clear hL HL0
    obtain ⟨wl, rfl⟩ : ∃ wl : World, wl = wr := ⟨_, rfl⟩
    by_cases hlt : s ≤ n
    · have d1 : decide ((s : Int) ≤ (n : Int)) = true := decide_eq_true (by omega)
      obtain ⟨s1, hs1'⟩ : ∃ s1, s1 + 1 = s := ⟨s - 1, by omega⟩
      have e0 : (s : Int) - 1 = (s1 : Int) := by omega
      have HS1 := Lib.hid hs1'
      obtain ⟨P, hP⟩ : ∃ P, s * (s - 1) = P := ⟨_, rfl⟩
      have hPb : P ≤ 90 := by
        rw [← hP]
        exact Nat.mul_le_mul (show s ≤ 10 by omega) (show s - 1 ≤ 9 by omega)
      have e1 : (s : Int) * (s1 : Int) = (P : Int) := by
        rw [← hP, Int.natCast_mul]; congr 1; omega
      have hs9 : s1 < 10 := by omega
      clear hs1'
      obtain ⟨M, hM⟩ : ∃ M, P / 2 + 1 = M := ⟨_, rfl⟩
      have e2 : (P : Int) / 2 + 1 = (M : Int) := by omega
      have hmk : ∀ W : World, (Instr.makeSlice 65 (.int .i64 (M : Int)) (.int .i64 (M : Int))).run Try.prog W = .ok (.slice (some ⟨W.heap.size, 0, none⟩) M M) (W.alloc (.cells (madeCells #[.pointer none] M) 66)) := fun W => run_make_row' 65 66 (.pointer none) 8 Try.underlying65 (by kernel_rfl) rfl .i64 .i64 M (by omega) (by omega) W
      have HI := Lib.hid (ISt.start (J := J (s - 1)) (HJ.out _) wl M HL.out.j)
      have HP := Lib.hid hP
      have HM := Lib.hid hM
      have hMb : M ≤ 46 := by omega
      clear hP hM
      go_wp2
      obtain ⟨q, hq⟩ : ∃ q, wl.heap.size = q := ⟨_, rfl⟩
      obtain ⟨W2, hW2⟩ : ∃ W2, wl.alloc (.cells (madeCells #[.pointer none] M) 66) = W2 := ⟨_, rfl⟩
      have hI1 := HI.out
      rw [hW2] at hI1 ⊢
      rw [hq] at hI1 ⊢
      have HI1 := Lib.hid hI1
      have HW2 := Lib.hid hW2
      have HQ := Lib.hid hq
      clear hI1 hW2 hq HI
      go_loopw [33] (fun i w3 => ∃ ps : List Nat, i = .int .i64 ((ps.length : Nat) : Int) ∧ ISt (J (s - 1)) wl q M ps w3) (fun i _ => M - (intOf i).toNat)
      case atStart => exact ⟨[], rfl, HI1.out⟩
      case round =>
        obtain ⟨ps, rfl, hI⟩ := hrel
        have hMl := hI.hM
        have HI := Lib.hid hI
        clear hI
        obtain ⟨i, hi⟩ : ∃ i, ps.length = i := ⟨_, rfl⟩
        rw [hi] at hMl ⊢
        by_cases hlt2 : i < M
        · have d2 : decide ((i : Int) < (M : Int)) = true := decide_eq_true (by omega)
          have hc := (HI.out.cell (by omega))
          have hst := HI.out.step' (HJ.out _) HL.out.size (by omega)
          rw [hi] at hc hst
          obtain ⟨hc1, hc2⟩ := hc
          have hqw : q < wr.heap.size := block_lt' HI.out.row
          have HST := Lib.hid hst
          have HIL := Lib.hid hi
          clear hst hi
          go_wp2
          go_roundw
          case rel => exact ⟨ps ++ [wr.heap.size], by simp [HIL.out], HST.out⟩
          case measure => simp [intOf]; omega
        · obtain rfl : i = M := by omega
          have d2 : decide ((i : Int) < (i : Int)) = false := decide_eq_false (by omega)
          have hR := HI.out.done hi
          have HR := Lib.hid hR
          have HIL := Lib.hid hi
          obtain ⟨rows, hrows⟩ : ∃ rows, chairs_Spread.known (s - 1) = rows := ⟨_, rfl⟩
          obtain ⟨F, hF⟩ : ∃ F, chairs_Spread.row rows s = F := ⟨_, rfl⟩
          have hlen : rows.length = s := by rw [← hrows, MSpread.known_length]; omega
          have hKN := HL.out.known
          rw [hrows] at hKN
          have HKN := Lib.hid hKN
          have HROWS := Lib.hid hrows
          have HF := Lib.hid hF
          have HLEN := Lib.hid hlen
          have hfb : ∀ x ∈ F, x < 4294967296 := by
            rw [← hF, ← hrows]
            have := MSpread.all_small (n := s - 1) (by omega)
            rwa [show s - 1 + 1 = s by omega] at this
          have HFB := Lib.hid hfb
          clear hfb
          have hst0 : chairs_Spread.befs rows s (s - 0) 0 (List.replicate i 0) = F := by
            rw [← hF]
            unfold chairs_Spread.row
            rw [Nat.sub_zero, HP.out, HM.out]
          have HST0 := Lib.hid hst0
          clear hR hi hrows hF hlen hKN hst0
          go_wp2
          obtain ⟨wo, rfl⟩ : ∃ wo : World, wo = wr := ⟨_, rfl⟩
          go_loopw [42] (fun t w3 => ∃ (b : Nat) (vs : List Nat), b ≤ s ∧ t = .int .i64 (b : Int) ∧ RSt (J (s - 1)) wl q ps vs w3 ∧ Hid (chairs_Spread.befs rows s (s - b) b vs = F)) (fun t _ => s - (intOf t).toNat)
          case atStart => exact ⟨0, _, by omega, rfl, HR.out, HST0⟩
          case round =>
            obtain ⟨b, vs, hb1, rfl, hR3, hG3⟩ := hrel
            have HR3 := Lib.hid hR3
            clear hR3
            by_cases hlt3 : b < s
            · have d3 : decide ((b : Int) < (s : Int)) = true := decide_eq_true (by omega)
              have hs1' := HS1.out
              obtain ⟨af, haf⟩ : ∃ af, af + b = s1 := ⟨s1 - b, by omega⟩
              obtain ⟨c, hc⟩ : ∃ c, chairs_Spread.ch s1 b = c := ⟨_, rfl⟩
              have hcb := MSpread.ch_small s1 (by omega) b (by omega)
              rw [hc] at hcb
              obtain ⟨hc0, hc1⟩ := hcb
              have e5 : (s1 : Int) - (b : Int) = (af : Int) := by omega
              have HC := Lib.hid hc
              obtain ⟨xr, hxr⟩ : ∃ xr, rows.getD b [] = xr := ⟨_, rfl⟩
              obtain ⟨yr, hyr⟩ : ∃ yr, rows.getD af [] = yr := ⟨_, rfl⟩
              have HXR := Lib.hid hxr
              have HYR := Lib.hid hyr
              obtain ⟨G4, hG4⟩ : ∃ G4, chairs_Spread.xs c (b + 1) yr xr 0 vs = G4 := ⟨_, rfl⟩
              have hg3 : chairs_Spread.befs rows s (s - (b + 1)) (b + 1) G4 = F := by
                have h := hG3.out
                rw [show s - b = (s - (b + 1)) + 1 by omega] at h
                simp only [chairs_Spread.befs] at h
                rw [show s - 1 = s1 by omega, hc, hxr, show s1 - b = af by omega, hyr, hG4] at h
                exact h
              have HG3 := Lib.hid hg3
              have HG4 : Hid (chairs_Spread.xs c (b + 1) yr (xr.drop 0) 0 vs = G4) := Lib.hid hG4
              obtain ⟨lx, hlx⟩ : ∃ lx, xr.length = lx := ⟨_, rfl⟩
              have HLX := Lib.hid hlx
              obtain ⟨ly, hly⟩ : ∃ ly, yr.length = ly := ⟨_, rfl⟩
              have HLY := Lib.hid hly
              have hsz := MSpread.sizes (s := s) (b := b) (af := af) (by omega) (by omega)
              rw [HROWS.out, hxr, hyr, hlx, hly, HP.out] at hsz
              obtain ⟨hfit, hlb, hlyb⟩ := hsz
              have hfit2 : lx + ly + b ≤ i + 1 := by have := HM.out; omega
              have HLE4 : Hid (MSpread.Le2 G4 F) := Lib.hid (by rw [← hg3]; exact MSpread.befs_le _ _ _ _ _)
              have hgf := HKN.out.at_ af (by rw [HLEN.out]; omega)
              rw [hyr] at hgf
              obtain ⟨qy, py, hqy, hny⟩ := hgf
              rw [hly] at hqy
              have HNY := Lib.hid hny
              have HQY := Lib.hid hqy
              clear hfit hly hny hqy
              have HAF := Lib.hid haf
              have hbs : b ≤ s1 := by omega
              have hafs : af < s := by omega
              have hgb := HKN.out.at_ b (by rw [HLEN.out]; exact hlt3)
              rw [hxr] at hgb
              obtain ⟨qx, px, hqx, hnx⟩ := hgb
              rw [hlx] at hqx
              have hgw := World.block_lt_of_cell? _ _ hqx
              simp only at hgw
              have HNX := Lib.hid hnx
              have HQX := Lib.hid hqx
              clear hs1' haf hc hxr hyr hG4 hG3 hg3 hlx hnx hqx
              have hb0i : (0 : Int) ≤ (b : Int) := Int.natCast_nonneg _
              have hbsi : (b : Int) < (s : Int) := by omega
              go_wp2_with fail
              refine (choose_at s1 b c hs9 hbs HC.out _).mono ?_
              rintro e w' ⟨rfl, rfl⟩
              go_wp2_with fail
              refine (NewInt_walk c (by omega) _).mono ?_
              rintro e w4 ⟨pw, rfl, hpw, hnw, hbw⟩
              have HPW : Hid (pw ∉ ps) := Lib.hid (HR3.out.notin hpw)
              have HR4 := Lib.hid (HR3.out.later (HJ.out _) hbw)
              have HNW := Lib.hid hnw
              have hqx := (HR4.out.below.cell (p := ⟨g, b, none⟩) hgw).trans HQX.out
              clear hpw hnw hbw
              have hafi : (0 : Int) ≤ (af : Int) := Int.natCast_nonneg _
              have hafj : (af : Int) < (s : Int) := by omega
              go_wp2
              clear hqx
              go_loopw [59] (fun t w5 => ∃ (a : Nat) (vs : List Nat), a ≤ lx ∧ t = .int .i64 (a : Int) ∧ RSt (J (s - 1)) wl q ps vs w5 ∧ Num w5 pw c ∧ Hid (chairs_Spread.xs c (b + 1) yr (xr.drop a) a vs = G4)) (fun t _ => lx - (intOf t).toNat)
              case atStart => exact ⟨0, _, by omega, rfl, HR4.out, HNW.out, HG4⟩
              case round =>
                obtain ⟨a, vs4, ha1, rfl, hR5, hN5, hG4⟩ := hrel
                have HR5 := Lib.hid hR5
                have HN5 := Lib.hid hN5
                clear hR5 hN5
                by_cases hlt4 : a < lx
                · have d4 : decide ((a : Int) < (lx : Int)) = true := decide_eq_true (by omega)
                  have hNXa := HNX.out.below HR5.out.below
                  have hpl : px.length = lx := by rw [hNXa.len, HLX.out]
                  have hcx := hNXa.row.cell a (by omega)
                  have hnx := hNXa.num a (by rw [HLX.out]; exact hlt4)
                  obtain ⟨x, hx⟩ : ∃ x, xr.getD a 0 = x := ⟨_, rfl⟩
                  obtain ⟨pa, hpa⟩ : ∃ pa, px.getD a 0 = pa := ⟨_, rfl⟩
                  rw [hpa] at hcx
                  rw [hx, hpa] at hnx
                  have HXV := Lib.hid hx
                  have HPA := Lib.hid hpa
                  obtain ⟨G5, hG5⟩ : ∃ G5, chairs_Spread.ys (c * x) (b + 1) a yr 0 vs4 = G5 := ⟨_, rfl⟩
                  have hg4 : chairs_Spread.xs c (b + 1) yr (xr.drop (a + 1)) (a + 1) G5 = G4 := by
                    have h := hG4.out
                    rw [List.drop_eq_getElem_cons (show a < xr.length by rw [HLX.out]; exact hlt4)] at h
                    have e : xr[a]'(by rw [HLX.out]; exact hlt4) = x := by rw [← hx]; simp [List.getD_eq_getElem?_getD, HLX.out, hlt4]
                    rw [e] at h
                    simp only [chairs_Spread.xs] at h
                    rw [hG5] at h
                    exact h
                  have HG4' := Lib.hid hg4
                  have HG5 : Hid (chairs_Spread.ys (c * x) (b + 1) a (yr.drop 0) 0 vs4 = G5) := Lib.hid hG5
                  have HLE5 : Hid (MSpread.Le2 G5 F) := Lib.hid ((by rw [← hg4]; exact MSpread.xs_le _ _ _ _ _ _ : MSpread.Le2 G5 G4).trans HLE4.out)
                  have hqy := (HR5.out.below.cell (p := ⟨g, af, none⟩) hgw).trans HQY.out
                  have hpaw : pa < wl.heap.size := by
                    rw [← hpa]; exact (HNX.out.num a (by rw [HLX.out]; exact hlt4)).lt
                  clear hNXa hpl hnx hx hpa hG5 hg4 hG4
                  have ha0i : (0 : Int) ≤ (a : Int) := Int.natCast_nonneg _
                  have hali : (a : Int) < (lx : Int) := by omega
                  go_wp2
                  clear hcx hqy
                  go_loopw [69] (fun t w6 => ∃ (k : Nat) (vs : List Nat), k ≤ ly ∧ t = .int .i64 (k : Int) ∧ RSt (J (s - 1)) wl q ps vs w6 ∧ Num w6 pw c ∧ Hid (chairs_Spread.ys (c * x) (b + 1) a (yr.drop k) k vs = G5)) (fun t _ => ly - (intOf t).toNat)
                  case atStart => exact ⟨0, _, by omega, rfl, HR5.out, HN5.out, HG5⟩
                  case round =>
                    obtain ⟨k, vs5, hk1, rfl, hR6, hN6, hG5⟩ := hrel
                    have HR6 := Lib.hid hR6
                    have HN6 := Lib.hid hN6
                    clear hR6 hN6
                    by_cases hlt5 : k < ly
                    · have d5 : decide ((k : Int) < (ly : Int)) = true := decide_eq_true (by omega)
                      have hNYa := HNY.out.below HR6.out.below
                      have hpl : py.length = ly := by rw [hNYa.len, HLY.out]
                      have hcy := hNYa.row.cell k (by omega)
                      have hny := hNYa.num k (by rw [HLY.out]; exact hlt5)
                      have hnx := (HNX.out.below HR6.out.below).num a (by rw [HLX.out]; exact hlt4)
                      obtain ⟨y, hy⟩ : ∃ y, yr.getD k 0 = y := ⟨_, rfl⟩
                      obtain ⟨pb, hpb⟩ : ∃ pb, py.getD k 0 = pb := ⟨_, rfl⟩
                      rw [hpb] at hcy
                      rw [hy, hpb] at hny
                      rw [HXV.out, HPA.out] at hnx
                      have hpbw : pb < wl.heap.size := by
                        rw [← hpb]; exact (HNY.out.num k (by rw [HLY.out]; exact hlt5)).lt
                      obtain ⟨V, hV⟩ : ∃ V, c * x * y = V := ⟨_, rfl⟩
                      obtain ⟨G6, hG6⟩ : ∃ G6, chairs_Spread.adds V (b + 1) (a + k) vs5 = G6 := ⟨_, rfl⟩
                      have hg5 : chairs_Spread.ys (c * x) (b + 1) a (yr.drop (k + 1)) (k + 1) G6 = G5 := by
                        have h := hG5.out
                        rw [List.drop_eq_getElem_cons (show k < yr.length by rw [HLY.out]; exact hlt5)] at h
                        have e : yr[k]'(by rw [HLY.out]; exact hlt5) = y := by rw [← hy]; simp [List.getD_eq_getElem?_getD, HLY.out, hlt5]
                        rw [e] at h
                        simp only [chairs_Spread.ys] at h
                        rw [hV, hG6] at h
                        exact h
                      have hle6 : MSpread.Le2 G6 F := (by rw [← hg5]; exact MSpread.ys_le _ _ _ _ _ _ : MSpread.Le2 G6 G5).trans HLE5.out
                      have hak : a + k < vs5.length := by have := HR6.out.row.len; have := HIL.out; omega
                      have hVs : V < 4294967296 := Nat.lt_of_le_of_lt (by rw [← hG6]; exact MSpread.adds_ge V b (a + k) vs5 hak) (hle6.lt (by omega) HFB.out (a + k))
                      have hxyV : x * y * c = V := by rw [← hV, Nat.mul_comm (x * y) c, Nat.mul_assoc]
                      have hxy : x * y < 4294967296 := by
                        have : x * y * 1 ≤ x * y * c := Nat.mul_le_mul_left _ hc0
                        omega
                      have HV := Lib.hid hxyV
                      have HVS := Lib.hid hVs
                      have HXY := Lib.hid hxy
                      have HG5' := Lib.hid hg5
                      have HG6 : Hid (chairs_Spread.adds V (b + 1 - 0) (a + k + 0) vs5 = G6) := Lib.hid hG6
                      have HLE6 := Lib.hid hle6
                      have HNy := Lib.hid hny
                      have HNx := Lib.hid hnx
                      have HWS := Lib.hid (HR6.out.below.size)
                      clear hNYa hpl hny hnx hy hpb hV hG6 hg5 hG5 hle6 hak hVs hxyV hxy
                      have hk0i : (0 : Int) ≤ (k : Int) := Int.natCast_nonneg _
                      have hkli : (k : Int) < (ly : Int) := by omega
                      obtain ⟨wn, rfl⟩ : ∃ wn : World, wn = wr := ⟨_, rfl⟩
                      have h2 := two_new wn
                      have HT := Lib.hid h2
                      clear h2
                      go_wp2_with fail
                      refine (Mul_walk (wn.heap.size + 1) pa pb x y _ HT.out.2.1 (HNx.out.below HT.out.2.2) (HNy.out.below HT.out.2.2) (by have := HWS.out; omega) (by have := HWS.out; omega) HXY.out).mono ?_
                      rintro e w7 ⟨rfl, hm7, hg7⟩
                      have HM7 := Lib.hid hm7
                      have HG7 := Lib.hid hg7
                      clear hm7 hg7
                      go_wp2_with fail
                      refine (Mul_walk wn.heap.size (wn.heap.size + 1) pw (x * y) c _ (HT.out.1.grown (by omega) HG7.out) HM7.out ((HN6.out.below HT.out.2.2).grown HT.out.2.1 (by have := HN6.out.lt; omega) HG7.out) (by omega) (by have := HN6.out.lt; omega) (by rw [HV.out]; exact HVS.out)).mono ?_
                      rintro e w8 ⟨rfl, hm8, hg8⟩
                      have hb78 : Below wn.heap.size wn w8 := below_num (below_num HT.out.2.2 (by omega) HG7.out (Nat.le_refl _)  ) (Nat.le_refl _) hg8 (Nat.le_refl _)
                      rw [HV.out] at hm8
                      have HM8 := Lib.hid hm8
                      have HR8 := Lib.hid (HR6.out.later (HJ.out _) hb78)
                      have HN8 := Lib.hid (HN6.out.below hb78)
                      obtain ⟨pz, hpz⟩ : ∃ pz, wn.heap.size = pz := ⟨_, rfl⟩
                      have HPZ : Hid (pz ∉ ps) := Lib.hid (HR6.out.notin (by omega))
                      rw [hpz] at HM8 ⊢
                      clear hm8 hg8 hb78 hpz HT HM7 HG7
                      go_wp2
                      go_loopw [83] (fun t w9 => ∃ (d : Nat) (vs : List Nat), d ≤ b + 1 ∧ t = .int .i64 (d : Int) ∧ RSt (J (s - 1)) wl q ps vs w9 ∧ Num w9 pw c ∧ Num w9 pz V ∧ Hid (chairs_Spread.adds V (b + 1 - d) (a + k + d) vs = G6)) (fun t _ => b + 1 - (intOf t).toNat)
                      case atStart => exact ⟨0, _, by omega, rfl, HR8.out, HN8.out, HM8.out, HG6⟩
                      case round =>
                        obtain ⟨d, vs6, hd1, rfl, hR9, hN9, hM9, hG6⟩ := hrel
                        have HR9 := Lib.hid hR9
                        have HN9 := Lib.hid hN9
                        have HM9 := Lib.hid hM9
                        clear hR9 hN9 hM9
                        by_cases hlt6 : d < b + 1
                        · have d6 : decide ((d : Int) < (b : Int) + 1) = true := decide_eq_true (by omega)
                          obtain ⟨wm, rfl⟩ : ∃ wm : World, wm = wr := ⟨_, rfl⟩
                          obtain ⟨ak, hak⟩ : ∃ ak, a + k = ak := ⟨_, rfl⟩
                          obtain ⟨ix, hix⟩ : ∃ ix, ak + d = ix := ⟨_, rfl⟩
                          have hvl : vs6.length = i := by rw [← HR9.out.row.len, HIL.out]
                          have hixl : ix < i := by omega
                          obtain ⟨pt, hpt⟩ : ∃ pt, ps.getD ix 0 = pt := ⟨_, rfl⟩
                          obtain ⟨v0, hv0⟩ : ∃ v0, vs6.getD ix 0 = v0 := ⟨_, rfl⟩
                          have hcq := HR9.out.row.row.cell ix (by rw [HIL.out]; exact hixl)
                          rw [hpt] at hcq
                          have hg6 : chairs_Spread.adds V (b + 1 - (d + 1)) (a + k + (d + 1)) (vs6.set ix (v0 + V)) = G6 := by
                            have h := hG6.out
                            rw [show b + 1 - d = (b + 1 - (d + 1)) + 1 by omega] at h
                            simp only [chairs_Spread.adds] at h
                            rw [show a + k + d = ix by omega, hv0, show ix + 1 = a + k + (d + 1) by omega] at h
                            exact h
                          have hsum : v0 + V < 4294967296 := by
                            have h1 := (MSpread.adds_le V (b + 1 - (d + 1)) (a + k + (d + 1)) (vs6.set ix (v0 + V))).trans (by rw [hg6]; exact HLE6.out)
                            have h2 := h1.lt (by omega) HFB.out ix
                            rwa [show (vs6.set ix (v0 + V)).getD ix 0 = v0 + V by simp [List.getD_eq_getElem?_getD, hvl, hixl]] at h2
                          have hbd : Below wm.heap.size wm wm.drew := (Below.refl _ _).drew
                          have hRd := HR9.out.later (HJ.out _) hbd
                          have hnt := hRd.row.num ix (by rw [hvl]; exact hixl)
                          rw [hpt, hv0] at hnt
                          have hptm : pt ∈ ps := by rw [← hpt]; exact getD_mem (by rw [HIL.out]; exact hixl)
                          have HRD := Lib.hid hRd
                          have HNT := Lib.hid hnt
                          have HNZ := Lib.hid (HM9.out.below hbd)
                          have HNW2 := Lib.hid (HN9.out.below hbd)
                          have HZT : Hid (pz ≠ pt) := Lib.hid (fun e => HPZ.out (by rw [e]; exact hptm))
                          have HWT : Hid (pw ≠ pt) := Lib.hid (fun e => HPW.out (by rw [e]; exact hptm))
                          have HPT := Lib.hid hpt
                          have HV0 := Lib.hid hv0
                          have HVL := Lib.hid hvl
                          have HG6' := Lib.hid hg6
                          have HSUM := Lib.hid hsum
                          have e7 : (a : Int) + (k : Int) = (ak : Int) := by omega
                          have e8 : (ak : Int) + (d : Int) = (ix : Int) := by omega
                          have e9 : IntKind.i64.wrap (ak : Int) = (ak : Int) := IntWalk.i64_in _ (by omega)
                          have e10 : IntKind.i64.wrap (ix : Int) = (ix : Int) := IntWalk.i64_in _ (by omega)
                          have hix0 : (0 : Int) ≤ (ix : Int) := Int.natCast_nonneg _
                          have hix1 : (ix : Int) < (i : Int) := by omega
                          clear hak hix hvl hpt hv0 hg6 hG6 hsum hbd hRd hnt hptm
                          go_wp2_with fail
                          go_region_held3 (fun w' => w'.cell? ⟨q, ix, none⟩ = some (.pointer (some ⟨pt, 0, none⟩)))
                            (first | exact hcq | exact hcqE)
                            (first | (go_at_call 73; refine (Add_walk pt pz v0 V _ HNT.out HNZ.out HZT.out HSUM.out).mono ?_; rintro e w' ⟨rfl, hadd, hgr⟩; have hst := HRD.out.add (HJ.out _) HL.out.size (i := ix) (v := v0 + V) (by rw [HVL.out]; exact hixl) (by rw [HPT.out]; exact hgr) (by rw [HPT.out]; exact hadd); have HST := Lib.hid hst; have hcqE := hst.row.row.cell ix (by rw [HIL.out]; exact hixl); rw [HPT.out] at hcqE; have HNW3 := Lib.hid (HNW2.out.grown HNT.out.slot HWT.out hgr); have HNZ3 := Lib.hid (HNZ.out.grown HNT.out.slot HZT.out hgr); clear hst hadd hgr))
                          clear e7 e8 e9 e10
                          go_wp2
                          go_roundw
                          case rel => exact ⟨d + 1, _, by omega, by go_num, HST.out, HNW3.out, HNZ3.out, HG6'⟩
                          case measure => simp [intOf]; omega
                        · obtain rfl : d = b + 1 := by omega
                          have d6 : decide (((b + 1 : Nat) : Int) < (b : Int) + 1) = false := decide_eq_false (by omega)
                          have hg := hG6.out
                          rw [Nat.sub_self] at hg
                          obtain rfl : vs6 = G6 := hg
                          clear hG6 HG6
                          go_wp2
                          go_roundw
                          case rel => exact ⟨k + 1, vs6, by omega, by go_num, HR9.out, HN9.out, HG5'⟩
                          case measure => simp [intOf]; omega
                    · obtain rfl : k = ly := by omega
                      have d5 : decide ((k : Int) < (k : Int)) = false := decide_eq_false (by omega)
                      have hg := hG5.out
                      rw [List.drop_of_length_le (by rw [HLY.out]; exact Nat.le_refl _)] at hg
                      obtain rfl : vs5 = G5 := hg
                      clear hG5 HG5
                      go_wp2
                      go_roundw
                      case rel => exact ⟨a + 1, vs5, by omega, by go_num, HR6.out, HN6.out, HG4'⟩
                      case measure => simp [intOf]; omega
                · obtain rfl : a = lx := by omega
                  have d4 : decide ((a : Int) < (a : Int)) = false := decide_eq_false (by omega)
                  have hg := hG4.out
                  rw [List.drop_of_length_le (by rw [HLX.out]; exact Nat.le_refl _)] at hg
                  obtain rfl : vs4 = G4 := hg
                  clear hG4 HG4
                  go_wp2
                  go_roundw
                  case rel => exact ⟨b + 1, vs4, by omega, by go_num, HR5.out, HG3⟩
                  case measure => simp [intOf]; omega
            · obtain rfl : b = s := by omega
              have d3 : decide ((b : Int) < (b : Int)) = false := decide_eq_false (by omega)
              have hg := hG3.out
              rw [Nat.sub_self] at hg
              obtain rfl : vs = F := hg
              clear hG3 HST0
              obtain ⟨wz, rfl⟩ : ∃ wz : World, wz = wr := ⟨_, rfl⟩
              obtain ⟨vals, ho, hrv⟩ := HR3.out.kn HKN.out
              have hvl : vals.length = b := by have := ho.1; have := HLEN.out; omega
              rw [← hvl.trans HLEN.out.symm] at ho
              have HO := Lib.hid ho
              have HRV := Lib.hid hrv
              have HVL := Lib.hid hvl
              have hv46 : vals.length ≤ 10 := by omega
              clear ho hrv hvl
              go_upto_region 31 with (first | (at_builtin; go_loud (refine print_append (w0 := wz) W.heap.size rfl (.tmp 108) (.tmp 110) 78 65 (.slice none 0 0) 24 rfl Try.underlying78 info65 rfl (by omega) (.slice (some ⟨g, 0, none⟩) b cap) vals (.slice (some ⟨q, 0, none⟩) i i) rfl rfl rfl HO.out (Below.refl _ _) (Nat.le_trans HL.out.size HR3.out.below.size) (by omega) ?_); intro v1 w1 ho1 _ hg1 _; have HO1 := Lib.hid ho1; have HG1 := Lib.hid hg1; clear ho1 hg1))
              have hst := stp_of_own HO.out HG1.out
              have hkp := keep_of_own HO.out HG1.out
              have hrow : chairs_Spread.row (chairs_Spread.known (b - 1)) (b - 1 + 1) = vs := by rw [HROWS.out, show b - 1 + 1 = b by omega]; exact HF.out
              have hkn : KnV W.heap.size w1 v1 (chairs_Spread.known b) := by
                have h := KnV.snoc (by rw [← HVL.out.trans HLEN.out.symm]; exact HO.out) HRV.out (HR3.out.rowv i HIL.out) HG1.out HO1.out
                rw [show chairs_Spread.known b = rows ++ [vs] by rw [show b = b - 1 + 1 by omega, chairs_Spread.known, hrow, HROWS.out]]
                exact h
              have hbox : w1.heap[Bs]? = some (.cells #[.int .i64 (n : Int)] 3 (0, 0)) := by
                have h0 := HL.out.box
                have h1 := (HR3.out.below.block Bs (block_lt' h0)).trans h0
                refine (HG1.out.block Bs (block_lt' h1) fun e => ?_).trans h1
                obtain ⟨cells', hc⟩ := own_typed HO.out Bs e.symm
                rw [h1] at hc
                injection hc with hc
                injection hc with _ h2
                cases h2
              obtain ⟨g1, cap1, e1v⟩ := hkn.form (by rw [MSpread.known_length]; omega)
              rw [MSpread.known_length] at e1v
              subst e1v
              obtain ⟨fn, tmps, assign, body, hy, hR⟩ := HY.out (b - 1) (.slice (some ⟨q, 0, none⟩) i i) w1 (HJ.out _ _ _ HR3.out.j hst) (by omega) (by rw [hrow]; exact (HR3.out.rowv i HIL.out).keep hkp)
              have HKN1 := Lib.hid hkn
              have HBOX1 := Lib.hid hbox
              clear hst hkp hrow hkn hbox
              refine (wpIn_wide (n := 4)).1 ?_
              gi_wp2
              refine hR.mono ?_
              rintro e W3 ⟨rfl, hJ3, hk3⟩
              have hL3 : LSt W.heap.size J Bs n b (.slice (some ⟨g1, 0, none⟩) (b + 1) cap1) W3   := ⟨Nat.le_trans (Nat.le_trans (Nat.le_trans HL.out.size HR3.out.below.size) HG1.out.size) hk3.size, HKN1.out.kp hk3, by rwa [show b - 1 + 1 = b by omega] at hJ3, hk3.box.trans HBOX1.out⟩
              have HL3 := Lib.hid hL3
              clear hL3 hJ3 hk3 hR
              gi_wp2
              go_wp2
              go_roundw
              case rel => exact ⟨b + 1, g1, cap1, by omega, by omega, by go_num, rfl, HL3.out⟩
              case measure => simp [intOf]; omega
    · have d1 : decide ((s : Int) ≤ (n : Int)) = false := decide_eq_false (by omega)
      have hj := HL.out.j
      rw [show s - 1 = n by omega] at hj
      have HJ2 := Lib.hid hj
      clear hj
      go_wp2
      go_end0
      exact ⟨⟨_, rfl⟩, HJ2.out⟩
end Go.Proofs.Ytfopeenjpdaacaa.PC
end
section
set_option linter.unusedVariables false
set_option linter.unusedSimpArgs false
/- A loop over the rows that the iterator hands out: what a round is told of the row it is given. -/
namespace Go.Proofs.Ytfopeenjpdaacaa.PC
open Go.RowKit Go.Proofs.YtfopeenjpdaacaaW.PrintWords Go.Proofs.YtfopeenjpdaacaaW.PrintLast Go.Proofs.YtfopeenjpdaacaaW.PrintMore
/-- how a round is left -/
def RPost (Bs k : Nat) (I : Nat → World → Prop) (B : Nat) (W : World) : Exit → Act → World → Prop
  | .normal, _, W' => KeepsFrom B W W' ∧ KpM Bs W W' ∧ I (k + 1) W'
  | _, _, _ => False
theorem KpM.trans {Bs : Nat} {A B C : World} (h : KpM Bs A B) (k : KpM Bs B C) : KpM Bs A C :=
  ⟨Nat.le_trans h.size k.size, k.box.trans h.box, fun r cells t hr ht => by
    have h1 := h.same r cells t hr ht
    exact (k.same r cells t (h1.trans hr) ht).trans h1⟩
theorem KpM.put {Bs l : Nat} {W : World} {o o' : Obj} (hl : W.heap[l]? = some o) (hc : o.isCells = false) (hne : Bs ≠ l) : KpM Bs W (W.putObj l o') :=
  ⟨by simp, World.putObj_heap_other hne, fun r cells t hr _ => World.putObj_heap_other (by
    rintro rfl
    rw [hr] at hl
    cases hl
    cases hc)⟩
theorem RowV.put {W : World} {l : Nat} {o o' : Obj} {v : Value} {vs : List Nat} (h : RowV W v vs) (hl : W.heap[l]? = some o) (hc : o.isCells = false) : RowV (W.putObj l o') v vs :=
  h.keep fun r cells t hr _ => World.putObj_heap_other (by
    rintro rfl
    rw [hr] at hl
    cases hl
    cases hc)
theorem Stp.lower {B0 B1 : Nat} {A B : World} (h : Stp B1 A B) (hb : B0 ≤ B1) : Stp B0 A B := by
  obtain ⟨row, hg, hr⟩ := h
  exact ⟨row, hg, fun r e => ⟨Nat.le_trans hb (hr r e).1, (hr r e).2⟩⟩
theorem range_rows {g : Operand} {ps : Array Tmp} {assign body : Code} {Q : Exit → Act → World → Prop} {a : Act} {w : World} (Bs n : Nat) (hn : n ≤ 10)
    (hg : a.eval g = .func (.func 69) #[] #[.pointer (some ⟨Bs, 0, none⟩)]) (hps : ps.size = 1)
    (hB : w.heap[Bs]? = some (.cells #[.int .i64 (n : Int)] 3 (0, 0)))
    (I : Nat → World → Prop) (hI : ∀ k, Stable w.heap.size (I k)) (hIo : ∀ (k : Nat) (W : World) (l : Nat) (o o' : Obj), w.heap.size ≤ l → W.heap[l]? = some o → o.isCells = false → I k W → I k (W.putObj l o')) (h0 : I 0 w) (a₁ : Value → Act)
    (hassign : ∀ (l : Nat) (v : Value) (W : World) (K : Act → World → Prop), K (a₁ v) W →
      assign.wpIn (Fence.wide.inRound l) 3 Try.prog (Exit.then K (fun _ _ _ => False)) { tmps := (ps.zip #[v]).foldl (fun t (p, v) => t.setIfInBounds p v) a.tmps, defers := [] } W)
    (hbody : ∀ (l k : Nat) (v : Value) (W : World), I k W → w.heap.size ≤ W.heap.size → k < n → RowV W v (chairs_Spread.row (chairs_Spread.known k) (k + 1)) → body.wpIn (Fence.wide.inRound l) 3 Try.prog (RPost Bs k I w.heap.size W) (a₁ v) W)
    (hdone : ∀ (D : Nat) (W : World), w.heap.size ≤ D → I n W → W.heap[D]? = some (.deferred (some [])) → Q .normal { a with defers := { target := .collected D, args := #[] } :: a.defers } W) :
    (Code.rangeFunc g ps assign body).wpIn Fence.wide 5 Try.prog Q a w := by
  refine wpIn_rangeFunc ?_
  intro fn hfn
  -- the loop's record, in its states
  let rec_ : LoopState → Loop := fun st => { state := st, pending := none, fn := fn, tmps := a.tmps, params := ps, assign := assign, body := body, defers := w.heap.size }
  have hBlt := block_lt' hB
  obtain ⟨L, hL⟩ : ∃ L, w.heap.size + 1 = L := ⟨_, rfl⟩
  obtain ⟨W1, hW1⟩ : ∃ W1, (w.alloc (.deferred (some []))).alloc (.loop (rec_ .ready)) = W1 := ⟨_, rfl⟩
  have hb1 : Below w.heap.size w W1 := by rw [← hW1]; exact ((Below.refl _ w).alloc (Nat.le_refl _) _).alloc (by simp) _
  have hloop : W1.heap[L]? = some (.loop (rec_ .ready)) := by
    rw [← hW1, ← hL]
    have := World.alloc_heap_new (w.alloc (.deferred (some []))) (.loop (rec_ .ready))
    rwa [World.size_alloc] at this
  have hdef : W1.heap[w.heap.size]? = some (.deferred (some [])) := by
    rw [← hW1]
    exact (Below.heap_alloc _ _ _ (by simp)).trans (World.alloc_heap_new w _)
  refine ⟨L, [{ target := .collected w.heap.size, args := #[] }], W1, { target := .fn (.func 69) #[.pointer (some ⟨Bs, 0, none⟩)], args := #[.func (.yield L) #[] #[]] }, W1, 69,
    #[.func (.yield L) #[] #[], .pointer (some ⟨Bs, 0, none⟩)], W1, ?_, ?_, fun _ _ => trivial, ?_, fun _ => by omega, ?_⟩
  · rw [← hW1, ← hL]
    exact run_enterLoop_outer _ _ _ _ _
  · simp only [resolve, hg]
    simp [go_sem]
  · have eg : ∀ args w, (callFunc 69 args).run Try.prog w = .ok (.enter 69 args) w := Go.Proofs.enters_of Try.func69 (by kernel_rfl) rfl
    simp [invoke, go_sem, eg]
  -- the iterator's contract, the record and the block for deferred calls beside the caller's own invariant
  have stp_keeps : ∀ {A B : World} {k : Nat} {o : Obj}, Stp w.heap.size A B → A.heap[k]? = some o → o.isCells = false → B.heap[k]? = some o := by
    rintro A B k o ⟨row, hgr, hrow⟩ hk hc
    refine (hgr.block k (block_lt' hk) fun e => ?_).trans hk
    obtain ⟨_, cells, t, hx, _⟩ := hrow k e.symm
    rw [hk] at hx
    cases hx
    cases hc
  refine (moves_in L Bs n hn W1 (fun k W => I k W ∧ W.heap[L]? = some (.loop (rec_ .ready)) ∧ W.heap[w.heap.size]? = some (.deferred (some [])))
    (fun k A B hA hst => by
      have hst := hst.lower hb1.size
      exact ⟨hI k A B hA.1 hst, stp_keeps hst hA.2.1 rfl, stp_keeps hst hA.2.2 rfl⟩)
    ((hb1.block Bs hBlt).trans hB) ?_ ⟨hI 0 _ _ h0 (.of_below hb1), hloop, hdef⟩).mono ?_
  · rintro k v W ⟨hi, hl, hd⟩ hk hrow
    have hy := run_yield (P := Try.prog) (args := #[v]) hl (by show (1 : Nat) = ps.size; rw [hps])
    obtain ⟨W2, hW2⟩ : ∃ W2, W.putObj L (.loop { rec_ .ready with state := .busy }) = W2 := ⟨_, rfl⟩
    have hlt := block_lt' hl
    have hl2 : W2.heap[L]? = some (.loop (rec_ .busy)) := by rw [← hW2]; exact World.putObj_heap_same hlt
    have hd2 : W2.heap[w.heap.size]? = some (.deferred (some [])) := by rw [← hW2]; exact (World.putObj_heap_other (by omega)).trans hd
    have hi2 : I k W2 := by rw [← hW2]; exact hIo k W L _ _ (by omega) hl rfl hi
    have hk2 : KpM Bs W W2 := by rw [← hW2]; exact KpM.put hl rfl (by omega)
    have hr2 : RowV W2 v (chairs_Spread.row (chairs_Spread.known k) (k + 1)) := by rw [← hW2]; exact hrow.put hl rfl
    refine ⟨fn, _, assign, body, hy, roundIn_of_wpIn trivial (hassign L v W _ ⟨W2, by rw [← hW2]; exact run_beginRound hl rfl, ?_⟩)⟩
    refine wpIn_mono (hbody L k v W2 hi2 (by have := block_lt' hl2; omega) hk hr2) ?_
    rintro e a3 W3 hp
    cases e with
    | normal =>
      obtain ⟨hf, hk3, hi3⟩ := hp
      have hl3 := hf.same L _ (by omega) hl2 rfl
      have hd3 := hf.same w.heap.size _ (Nat.le_refl _) hd2 rfl
      refine ⟨_, _, run_endRound (P := Try.prog) none hl3, rfl, ⟨hIo _ W3 L _ _ (by omega) hl3 rfl hi3, World.putObj_heap_same (block_lt' hl3), (World.putObj_heap_other (by omega)).trans hd3⟩, ?_⟩
      exact (hk2.trans hk3).trans (KpM.put hl3 rfl (by omega))
    | _ => exact hp.elim
  · rintro e W2 ⟨⟨v, rfl⟩, hi, hl, hd⟩
    exact ⟨none, _, run_endLoop (P := Try.prog) hl (by simp [rec_]), hdone w.heap.size _ (Nat.le_refl _) (hIo n W2 L _ _ (by omega) hl rfl hi) ((World.putObj_heap_other (by omega)).trans hd)⟩
end Go.Proofs.Ytfopeenjpdaacaa.PC
end
section
set_option linter.unusedVariables false
set_option linter.unusedSimpArgs false
/- Spread: the last row that the iterator hands out. -/
namespace Go.Proofs.Ytfopeenjpdaacaa.PC
open Go.RowKit Go.Proofs.YtfopeenjpdaacaaW.PrintWords Go.Proofs.YtfopeenjpdaacaaW.PrintLast Go.Proofs.YtfopeenjpdaacaaW.PrintMore
attribute [local go_sem] Oper.semAt_some
/-- what is in the caller's variable when k rows are over -/
def rowI : Nat → List Int
  | 0 => []
  | k + 1 => (chairs_Spread.row (chairs_Spread.known k) (k + 1)).map fun x : Nat => (x : Int)
/-- what the caller holds between the rounds -/
structure CSt (n₀ Bo Bs : Nat) (w : World) (xs : List Int) (W : World) : Prop where
  own : ∃ v, Boxed W Bo 22 v ∧ W.ownsRow (Bs + 1) 3 1 v xs.length (nums .i64 xs)
  below : Below n₀ w W
theorem CSt.stable {n₀ Bo Bs B0 : Nat} {w : World} {xs : List Int} (hB : n₀ ≤ B0) (hw : n₀ ≤ w.heap.size) : Stable B0 (CSt n₀ Bo Bs w xs) := by
  rintro A B ⟨⟨v, hv, ho⟩, hb⟩ ⟨row, hg, hr⟩
  have keep : ∀ (k : Nat) (cells : Array Value) (t : Nat), A.heap[k]? = some (.cells cells t (0, 0)) → t ≠ 65 → t ≠ 66 → t ≠ 82 → B.heap[k]? = A.heap[k]? := fun k cells t hk h1 h2 h3 => by
    refine hg.block k (block_lt' hk) fun e => ?_
    obtain ⟨_, cells', t', hx, ht⟩ := hr k e.symm
    rw [hk] at hx
    injection hx with hx
    injection hx with _ h4
    subst h4
    rcases ht with ht | ht | ht
    · exact h1 ht
    · exact h2 ht
    · exact h3 ht
  refine ⟨⟨v, (keep _ _ _ hv (by decide) (by decide) (by decide)).trans hv, own_move ho fun k hk => ?_⟩, ?_⟩
  · obtain ⟨cells, hc⟩ := own_typed ho k hk
    exact keep k cells 3 hc (by decide) (by decide) (by decide)
  · refine ⟨hg.os.trans hb.os, hg.tape.trans hb.tape, hg.output.trans hb.output, Nat.le_trans hb.size hg.size, fun k hk => (hg.block k (by have := hb.size; omega) fun e => ?_).trans (hb.block k hk)⟩
    have := (hr k e.symm).1
    omega
theorem CSt.put {n₀ Bo Bs l : Nat} {w W : World} {xs : List Int} {o o' : Obj} (h : CSt n₀ Bo Bs w xs W) (hn : n₀ ≤ l) (hl : W.heap[l]? = some o) (hc : o.isCells = false) : CSt n₀ Bo Bs w xs (W.putObj l o') := by
  obtain ⟨⟨v, hv, ho⟩, hb⟩ := h
  have keep : ∀ (k : Nat) (cells : Array Value) (t : Nat), W.heap[k]? = some (.cells cells t (0, 0)) → (W.putObj l o').heap[k]? = W.heap[k]? := fun k cells t hk => World.putObj_heap_other (by
    rintro rfl
    rw [hk] at hl
    cases hl
    cases hc)
  refine ⟨⟨v, (keep _ _ _ hv).trans hv, own_move ho fun k hk => ?_⟩, ?_⟩
  · obtain ⟨cells, hx⟩ := own_typed ho k hk
    exact keep k cells 3 hx
  · have hg := grownBy_putObj' W l o'
    exact ⟨hg.os.trans hb.os, hg.tape.trans hb.tape, hg.output.trans hb.output, Nat.le_trans hb.size hg.size, fun k hk => (World.putObj_heap_other (by omega)).trans (hb.block k hk)⟩
/-- the state when j numbers of the row are over -/
structure RI (n₀ : Nat) (w : World) (B : Nat) (F : List Nat) (W : World) (j : Nat) (wr : World) : Prop where
  own : ∃ v, Boxed wr n₀ 22 v ∧ wr.ownsRow (n₀ + 2) 3 1 v ((F.take j).map fun x : Nat => (x : Int)).length (nums .i64 ((F.take j).map fun x : Nat => (x : Int)))
  below : Below n₀ w wr
  kp : KpM (n₀ + 1) W wr
  kf : KeepsFrom B W wr
theorem RI.keeps {n₀ B j : Nat} {w W wr : World} {F : List Nat} (h : RI n₀ w B F W j wr) : Keep65 W wr := fun r cells t hr ht => h.kp.same r cells t hr (.inr ht)
theorem info3' : (Try.prog.info? 3).map (fun i => (i.zero, i.size, i.bytes)) = some (some (.int .i64 0), 1, 8) := by kernel_rfl
theorem take_snoc (F : List Nat) (j : Nat) (hj : j < F.length) : (F.take (j + 1)).map (fun x : Nat => (x : Int)) = (F.take j).map (fun x : Nat => (x : Int)) ++ [((F.getD j 0 : Nat) : Int)] := by
  rw [List.take_succ_eq_append_getElem hj, List.map_append]
  simp [List.getD_eq_getElem?_getD, hj]
/-- a step of the caller's: it writes its own variable, or its own row -/
theorem RI.step {n₀ B j : Nat} {w W wr w2 w1 : World} {F : List Nat} {vj v1 : Value} {xs ys : List Int} (h : RI n₀ w B F W j wr) (hv : Boxed wr n₀ 22 vj) (ho : wr.ownsRow (n₀ + 2) 3 1 vj xs.length (nums .i64 xs)) (h2 : Below wr.heap.size wr w2) (hg : w2.grownBy w1 vj.ownBlock)
    (ho1 : w1.ownsRow (n₀ + 2) 3 1 v1 ys.length (nums .i64 ys)) (hy : ys = (F.take (j + 1)).map (fun x : Nat => (x : Int))) (hn : n₀ + 1 < wr.heap.size) : RI n₀ w B F W (j + 1) (w1.setCell ⟨n₀, 0, none⟩ v1) := by
  have ho2 := pw_own_below ho h2
  have hz := h2.size
  -- blocks that are no own row stay
  have keep1 : ∀ k, k < w2.heap.size → vj.ownBlock ≠ some k → w1.heap[k]? = w2.heap[k]? := fun k hk hne => hg.block k hk (fun e => hne e.symm)
  have hv2 : w2.heap[n₀]? = some (.cells #[vj] 22 (0, 0)) := (h2.block n₀ (by omega)).trans hv
  have hne : vj.ownBlock ≠ some n₀ := fun e => by have := own_base ho n₀ e; omega
  have hv1 : w1.heap[n₀]? = some (.cells #[vj] 22 (0, 0)) := (keep1 n₀ (by omega) hne).trans hv2
  have keep2 : ∀ k, k ≠ n₀ → (w1.setCell ⟨n₀, 0, none⟩ v1).heap[k]? = w1.heap[k]? := fun k hk => Below.heap_setCell w1 _ v1 k hk
  have hsz : (w1.setCell ⟨n₀, 0, none⟩ v1).heap.size = w1.heap.size := by simp
  have keepT : ∀ (r : Nat) (cells : Array Value) (t : Nat), wr.heap[r]? = some (.cells cells t (0, 0)) → t ≠ 3 → t ≠ 22 → (w1.setCell ⟨n₀, 0, none⟩ v1).heap[r]? = wr.heap[r]? := fun r cells t hr h3 h22 => by
    have hlt := block_lt' hr
    have e1 : r ≠ n₀ := by
      rintro rfl
      have hv' : wr.heap[r]? = some (.cells #[vj] 22 (0, 0)) := hv
      rw [hr] at hv'
      injection hv' with hv'
      injection hv' with _ h4
      exact h22 h4
    have e2 : vj.ownBlock ≠ some r := fun e => by
      obtain ⟨cells', hc⟩ := own_typed ho r e
      rw [hr] at hc
      injection hc with hc
      injection hc with _ h4
      exact h3 h4
    exact ((keep2 r e1).trans (keep1 r (by omega) e2)).trans (h2.block r hlt)
  have keepO : ∀ (r : Nat) (o : Obj), wr.heap[r]? = some o → o.isCells = false → (w1.setCell ⟨n₀, 0, none⟩ v1).heap[r]? = some o := fun r o hr hc => by
    have hlt := block_lt' hr
    have e1 : r ≠ n₀ := by
      rintro rfl
      rw [show wr.heap[r]? = _ from hv] at hr
      cases hr
      cases hc
    have e2 : vj.ownBlock ≠ some r := fun e => by
      obtain ⟨cells', hx⟩ := own_typed ho r e
      rw [hr] at hx
      cases hx
      cases hc
    exact (((keep2 r e1).trans (keep1 r (by omega) e2)).trans (h2.block r hlt)).trans hr
  refine ⟨⟨v1, heap_set hv1 v1, ?_⟩, ?_, ⟨?_, ?_, ?_⟩, ⟨?_, ?_⟩⟩
  · rw [← hy]
    refine own_move ho1 fun k hk => keep2 k (fun e => ?_)
    have := own_base ho1 k hk
    omega
  · have hb := h.below
    refine ⟨by show w1.os = w.os; exact (hg.os.trans h2.os).trans hb.os, by show w1.tape = w.tape; exact (hg.tape.trans h2.tape).trans hb.tape, by show w1.output = w.output; exact (hg.output.trans h2.output).trans hb.output, by rw [hsz]; exact Nat.le_trans (Nat.le_trans hb.size h2.size) hg.size, fun k hk => ?_⟩
    exact (((keep2 k (by omega)).trans (keep1 k (by omega) (fun e => by have := own_base ho k e; omega))).trans (h2.block k (by omega))).trans (hb.block k hk)
  · rw [hsz]; exact Nat.le_trans (Nat.le_trans h.kp.size h2.size) hg.size
  · exact (((keep2 _ (by omega)).trans (keep1 _ (by omega) (fun e => by have := own_base ho _ e; omega))).trans (h2.block _ hn)).trans h.kp.box
  · intro r cells t hr ht
    have h1 := h.kp.same r cells t hr ht
    refine (keepT r cells t (h1.trans hr) ?_ ?_).trans h1
    · rintro rfl; rcases ht with ht | ht | ht | ht <;> cases ht
    · rintro rfl; rcases ht with ht | ht | ht | ht <;> cases ht
  · rw [hsz]; exact Nat.le_trans (Nat.le_trans h.kf.size h2.size) hg.size
  · intro k o hB hk hc
    exact keepO k o (h.kf.same k o hB hk hc) hc
theorem RI.start {n₀ B : Nat} {w W : World} {F : List Nat} {v0 : Value} (hv : Boxed W n₀ 22 v0) (hb : Below n₀ w W) : RI n₀ w B F W 0 (W.setCell ⟨n₀, 0, none⟩ (.slice none 0 0)) := by
  have hv' : W.heap[n₀]? = some (.cells #[v0] 22 (0, 0)) := hv
  have keep2 : ∀ k, k ≠ n₀ → (W.setCell ⟨n₀, 0, none⟩ (.slice none 0 0)).heap[k]? = W.heap[k]? := fun k hk => Below.heap_setCell W _ _ k hk
  refine ⟨⟨_, heap_set hv' _, own_nil _ _ _ _⟩, hb.setCell (p := ⟨n₀, 0, none⟩) (Nat.le_refl _) _, ⟨by simp, keep2 _ (by omega), fun r cells t hr ht => keep2 r ?_⟩, ⟨by simp, fun k o _ hk hc => (keep2 k ?_).trans hk⟩⟩
  · rintro rfl
    rw [hr] at hv'
    injection hv' with hv'
    injection hv' with _ h4
    subst h4
    rcases ht with ht | ht | ht | ht <;> cases ht
  · rintro rfl
    rw [hv'] at hk
    cases hk
    cases hc
/-- an append at its place in a region that draws its order -/
theorem append_in {F : Fence} {n : Nat} {P : Program} {ops : Array Oper} {o : Oper} {a : Act} {w w1 : World} {K : Act → World → Prop} {Q : Exit → Act → World → Prop} {X : Prop} (hw : Region.wanted o (yielded ops a.tmps) = true) (s x : Operand) (t : TypeId)
    (ho : o.op = .call { callee := .builtin .append, args := #[s, x], argTypes := #[t, t] }) {v y v1 : Value} (hs : a.eval s = v) (hx : a.eval x = y) (hr : (Builtin.append_ #[t, t] o.type #[v, y]).run P w = .ok v1 w1) (hk : K (a.put o.dst v1) w1) :
    if Region.wanted o (yielded ops a.tmps) = true then Oper.wpIn F n P o a w K Q else X := by
  rw [if_pos hw]
  unfold Oper.wpIn
  refine ⟨by simp [Oper.about, ho, resolve, Target.leads, Sem.run_pure], ?_⟩
  rw [Oper.semAt_plain F _ _ (by rw [ho]; intro c hc'; cases hc')]
  simp [execOp, ho, resolve, invoke, builtin, hs, hx, hr, Result.andThen]
  exact hk
theorem moves_make (F : Fence) (m : Nat) (h5 : F.fn 56) (hro : F.round = none) (n : Int) (w : World) :
    CallsIn F m Try.prog 56 #[.int .i64 n] w fun e w' => e = .returned (.func (.func 69) #[] #[.pointer (some ⟨w.heap.size, 0, none⟩)]) ∧ w' = w.alloc (.cells #[.int .i64 n] 3) := by
  refine callsIn_of_wp Try.func56 rfl h5 ?_ hro
  simp only [Try.ntmps56, List.size_toArray, List.length_cons, List.length_nil, Nat.reduceAdd, Nat.reduceSub, Array.replicate_succ, Array.replicate_zero, List.push_toArray, List.append_toArray, List.nil_append, List.cons_append]
  gi_wp2
  go_ret
  exact ⟨rfl, rfl⟩
set_option maxRecDepth 1000000 in
set_option maxHeartbeats 4000000 in
theorem spread_walk (n : Nat) (hn1 : 1 ≤ n) (hn : n ≤ 10) (w : World) :
    Calls Try.prog 24 #[.int .i64 (n : Int)] w fun e w' => ∃ v0_ : Value, e = .returned (.tuple #[v0_, .int .i64 0]) ∧ Kd.R (Kd.int .i64) 3 w' w.heap.size (fun _ => True) v0_ (rowI n) ∧ Below w.heap.size w w' := by
  have d1 : decide ((n : Int) < 1) = false := decide_eq_false (by omega)
  have d2 : decide ((10 : Int) < (n : Int)) = false := decide_eq_false (by omega)
  refine (callsIn_wide (n := 5)).1 ?_
  refine callsIn_of_wp_marks Try.func24 rfl trivial ?_ rfl
  simp only [Try.ntmps24, List.size_toArray, List.length_cons, List.length_nil, Nat.reduceAdd, Nat.reduceSub, Array.replicate_succ, Array.replicate_zero, List.push_toArray, List.append_toArray, List.nil_append, List.cons_append]
  gi_wp2_with (refine ⟨trivial, ?_⟩; gi_at_call 56; refine (moves_make Fence.wide (5 - 1) trivial rfl _ _).mono ?_; rintro e w' ⟨rfl, rfl⟩)
  obtain ⟨n₀, hn₀⟩ : ∃ n₀, w.heap.size = n₀ := ⟨_, rfl⟩
  obtain ⟨W1, hW1⟩ : ∃ W1, (w.alloc (.cells #[.slice none 0 0] 22)).alloc (.cells #[.int .i64 (n : Int)] 3) = W1 := ⟨_, rfl⟩
  have hb1 : Below n₀ w W1 := by rw [← hW1, ← hn₀]; exact ((Below.refl _ w).alloc (Nat.le_refl _) _).alloc (by simp) _
  have hs1 : W1.heap.size = n₀ + 2 := by rw [← hW1, ← hn₀]; simp
  have hBo : Boxed W1 n₀ 22 (.slice none 0 0) := by rw [← hW1, ← hn₀]; exact (Boxed.new w 22 _).alloc _
  have hBs : W1.heap[n₀ + 1]? = some (.cells #[.int .i64 (n : Int)] 3 (0, 0)) := by
    rw [← hW1, ← hn₀]
    have := heap_alloc_new (w.alloc (.cells #[.slice none 0 0] 22)) (.cells #[.int .i64 (n : Int)] 3)
    rwa [World.size_alloc] at this
  have h0 : CSt n₀ n₀ (n₀ + 1) w (rowI 0) W1 := ⟨⟨_, hBo, own_nil _ _ _ _⟩, hb1⟩
  rw [hW1]
  simp only [hn₀]
  refine range_rows (n₀ + 1) n hn rfl rfl hBs (fun k => CSt n₀ n₀ (n₀ + 1) w (rowI k)) (fun k => CSt.stable (by omega) (by omega)) (fun k W l o o' hl ho hc h => h.put (by omega) ho hc) h0 (fun v => { tmps := #[.int .i64 (n : Int), undef, .slice none 0 0, .int .i64 0, .pointer (some ⟨n₀, 0, none⟩), v, undef, undef, .int .i64 (n : Int), .bool false, .bool false, .int .i64 (n : Int), .bool false, .bool false, .int .i64 (n : Int), .func (.func 69) #[] #[.pointer (some ⟨n₀ + 1, 0, none⟩)], v, undef, undef, undef, undef, undef, undef, undef, undef, undef, undef, undef, undef, undef], defers := [] }) ?assign ?body ?done
  case assign =>
    intro l v W K hK
    gi_wp2
    exact hK
  case body =>
    intro l k v W hI hsW hk hrow
    obtain ⟨q, ps, rfl, hnr⟩ := hrow
    obtain ⟨⟨v0, hv, ho⟩, hb⟩ := hI
    obtain ⟨F, hF⟩ : ∃ F, chairs_Spread.row (chairs_Spread.known k) (k + 1) = F := ⟨_, rfl⟩
    rw [hF] at hnr ⊢
    obtain ⟨m, hm⟩ : ∃ m, F.length = m := ⟨_, rfl⟩
    rw [hm]
    have hvc := hv.cell
    have hvf := hv.frozen
    have HNR := Lib.hid hnr
    have HV := Lib.hid hv
    have HB := Lib.hid hb
    have HF := Lib.hid hF
    have HM := Lib.hid hm
    have hmb : m ≤ 46 := by rw [← HM.out, ← HF.out]; exact MSpread.row_len (by omega)
    clear hnr hv ho hb hF hm
    have hR0 : RI n₀ w W1.heap.size F W 0 (W.setCell ⟨n₀, 0, none⟩ (.slice none 0 0)) := RI.start HV.out HB.out
    have HR0 := Lib.hid hR0
    clear hR0
    gi_wp2
    gi_loopw [19] (fun t wr => ∃ j : Nat, j ≤ m ∧ t = .int .i64 (j : Int) ∧ RI n₀ w W1.heap.size F W j wr) (fun t _ => m - (intOf t).toNat)
    case atStart => exact ⟨0, by omega, rfl, HR0.out⟩
    case round =>
      obtain ⟨j, hj, rfl, hR⟩ := hrel
      have HR := Lib.hid hR
      clear hR
      by_cases hlt : j < m
      · have d3 : decide ((j : Int) < (m : Int)) = true := decide_eq_true (by omega)
        obtain ⟨vj, hvj, hoj⟩ := HR.out.own
        have hNr := HNR.out.keep HR.out.keeps
        have hcj := hNr.row.cell j (by rw [hNr.len, HM.out]; exact hlt)
        have hnj := hNr.num j (by rw [HM.out]; exact hlt)
        obtain ⟨x, hx⟩ : ∃ x, F.getD j 0 = x := ⟨_, rfl⟩
        obtain ⟨p, hp⟩ : ∃ p, ps.getD j 0 = p := ⟨_, rfl⟩
        rw [hp] at hcj
        rw [hx, hp] at hnj
        have hcell := hvj.cell
        have hfro := hvj.frozen
        have HVJ := Lib.hid hvj
        have HOJ := Lib.hid hoj
        have HNJ := Lib.hid hnj
        have HX := Lib.hid hx
        have hq : n₀ < wr.heap.size := by
          have h := hvj
          exact block_lt' h
        have hq1 : n₀ + 1 < wr.heap.size := by have := HR.out.kp.size; omega
        have hca : ∀ nd : Nat, ((wr.drewN nd).alloc (.cells #[.int .i64 (x : Int)] 3)).cell? ⟨n₀, 0, none⟩ = some vj := fun nd => by
          rw [World.cell?_alloc_past _ _ _ (show n₀ < (wr.drewN nd).heap.size from hq)]
          exact hcell
        have HCA := Lib.hid hca
        clear hca
        have hint : CallsIn (Fence.wide.inRound l) 2 Try.prog 57 #[.pointer (some ⟨p, 0, none⟩)] wr.drew fun e w' => e = .returned (.int .i64 (x : Int)) ∧ ∃ nd2 : Nat, w' = wr.drew.drewN nd2 := by
          have h := callsIn_wide (n := 2) |>.2 (Int64_walk p x wr.drew (hnj.below ((Below.refl _ _).drew)))
          exact CallsIn.mono h fun e w' ⟨h1, ⟨h2⟩⟩ => ⟨h1, h2⟩
        have HINT := Lib.hid hint
        clear hvj hoj hNr hnj hx hp hint
        gi_wp2
        have happ : ∀ nd2 : Nat, ∃ A1 n1 c1 w1, (Builtin.append_ #[22, 22] 22 #[vj, .slice (some ⟨wr.heap.size, 0, none⟩) 1 1]).run Try.prog ((wr.drewN nd2).alloc (.cells #[.int .i64 (x : Int)] 3)) = .ok (.slice A1 n1 c1) w1 ∧ w1.cell? ⟨n₀, 0, none⟩ = some vj ∧ w1.frozen? ⟨n₀, 0, none⟩ = false ∧ RI n₀ w W1.heap.size F W (j + 1) (w1.setCell ⟨n₀, 0, none⟩ (.slice A1 n1 c1)) := by
          intro nd2
          have hb2 : Below wr.heap.size wr (wr.drewN nd2) := pw_below_drewN (Below.refl _ _) _
          have hb3 : Below wr.heap.size wr ((wr.drewN nd2).alloc (.cells #[.int .i64 (x : Int)] 3)) := hb2.alloc hb2.size _
          have ho3 := pw_own_below HOJ.out hb3
          obtain ⟨i0, hi0, hzz⟩ := Option.map_eq_some_iff.1 info3'
          simp only [Prod.mk.injEq] at hzz
          obtain ⟨hz0, hz1, hz2⟩ := hzz
          have hjl : ((F.take j).map fun x : Nat => (x : Int)).length ≤ 46 := by rw [List.length_map, List.length_take]; omega
          obtain ⟨v1, w1, hr, h2, h3, _, h5⟩ := run_append_own_at (P := Try.prog) ((wr.drewN nd2).alloc (.cells #[.int .i64 (x : Int)] 3)) (n₀ + 2) 22 22 3 i0 (.int .i64 0) 1 8 Try.underlying22 hi0 hz0 hz1 hz2 rfl (by omega) vj _ _ ho3 ⟨wr.heap.size, 0, none⟩ 1 1 [.int .i64 (x : Int)] rfl
            (World.news_of_block (cs := #[.int .i64 (x : Int)]) (t := 3) (fr := (0, 0)) (heap_alloc_new (wr.drewN nd2) _)) (by simp [Value.oneCell']) (by simp only [maxLen]; omega) (by omega) (by have := HR.out.below.size; have := hb3.size; omega)
          have hv2 : ((wr.drewN nd2).alloc (.cells #[.int .i64 (x : Int)] 3)).heap[n₀]? = some (.cells #[vj] 22 (0, 0)) := (hb3.block n₀ hq).trans HVJ.out
          have hne : vj.ownBlock ≠ some n₀ := fun e => by have := own_base HOJ.out n₀ e; omega
          have hv1 := (h3.block n₀ (block_lt' hv2) (fun e => hne e.symm)).trans hv2
          have hsn := take_snoc F j (by rw [HM.out]; exact hlt)
          rw [HX.out] at hsn
          obtain ⟨A1, c1, e1⟩ := own_slice h2
          subst e1
          refine ⟨_, _, _, w1, hr, by simp [World.cell?, hv1], by simp [World.frozen?, hv1], ?_⟩
          refine RI.step HR.out HVJ.out HOJ.out hb3 h3 (ys := (F.take j).map (fun x : Nat => (x : Int)) ++ [(x : Int)]) ?_ hsn.symm hq1
          have e1 : nums .i64 ((F.take j).map (fun x : Nat => (x : Int))) ++ [.int .i64 (x : Int)] = nums .i64 ((F.take j).map (fun x : Nat => (x : Int)) ++ [(x : Int)]) := by simp [nums]
          rw [e1] at h2
          rw [List.length_append]
          exact h2
        have HAPP := Lib.hid happ
        clear happ
        refine wpIn_region_any (by kernel_rfl) ?_
        change wpAnyIn _ _ _ _ _ _ _ _ _ wr.drew
        refine wpAnyIn_ready (rs := [0, 1]) (by kernel_rfl) (by simp) ?_
        refine AllReadyIn.cons rfl (fun K hK => ?_) (AllReadyIn.cons rfl (fun K hK => ?_) AllReadyIn.nil)
        · go_simp
          refine hK _ _ ?_
          clear hK K
          refine wpAnyIn_ready (rs := [1]) (by kernel_rfl) (by simp) ?_
          refine AllReadyIn.cons rfl (fun K hK => ?_) AllReadyIn.nil
          go_simp
          refine hK _ _ ?_
          clear hK K
          refine wpAnyIn_ready (rs := [2]) (by kernel_rfl) (by simp) ?_
          refine AllReadyIn.cons rfl (fun K hK => ?_) AllReadyIn.nil
          go_simp
          refine ⟨trivial, ?_⟩
          refine HINT.out.mono ?_
          rintro e w' ⟨rfl, nd2, rfl⟩
          have hcA := HCA.out (1 + nd2)
          go_simp
          refine hK _ _ ?_
          clear hK K
          refine wpAnyIn_ready (rs := [3]) (by kernel_rfl) (by simp) ?_
          refine AllReadyIn.cons rfl (fun K hK => ?_) AllReadyIn.nil
          go_simp
          refine hK _ _ ?_
          clear hK K
          obtain ⟨A1, n1, c1, w1, hrun, hc1, hf1, hri⟩ := HAPP.out (1 + nd2)
          refine wpAnyIn_ready (rs := [4]) (by kernel_rfl) (by simp) ?_
          refine AllReadyIn.cons rfl (fun K hK => ?_) AllReadyIn.nil
          refine append_in (v := vj) (y := .slice (some ⟨wr.heap.size, 0, none⟩) 1 1) (v1 := .slice A1 n1 c1) (w1 := w1) (by rfl) (.tmp 23) (.tmp 26) 22 rfl rfl rfl hrun ?_
          refine hK _ _ ?_
          clear hK K hrun
          refine wpAnyIn_ready (rs := [5]) (by kernel_rfl) (by simp) ?_
          refine AllReadyIn.cons rfl (fun K hK => ?_) AllReadyIn.nil
          go_simp
          refine hK _ _ ?_
          clear hK K
          refine wpAnyIn_done (by kernel_rfl) ?_ _
          have HRI := Lib.hid hri
          clear hri
          gi_wp2
          go_roundw
          case rel => exact ⟨j + 1, by omega, by go_num, HRI.out⟩
          case measure => simp [intOf]; omega
        · go_simp
          refine hK _ _ ?_
          clear hK K
          refine wpAnyIn_ready (rs := [0, 2]) (by kernel_rfl) (by simp) ?_
          refine AllReadyIn.cons rfl (fun K hK => ?_) (AllReadyIn.cons rfl (fun K hK => ?_) AllReadyIn.nil)
          · go_simp
            refine hK _ _ ?_
            clear hK K
            refine wpAnyIn_ready (rs := [2]) (by kernel_rfl) (by simp) ?_
            refine AllReadyIn.cons rfl (fun K hK => ?_) AllReadyIn.nil
            go_simp
            refine ⟨trivial, ?_⟩
            refine HINT.out.mono ?_
            rintro e w' ⟨rfl, nd2, rfl⟩
            have hcA := HCA.out (1 + nd2)
            go_simp
            refine hK _ _ ?_
            clear hK K
            refine wpAnyIn_ready (rs := [3]) (by kernel_rfl) (by simp) ?_
            refine AllReadyIn.cons rfl (fun K hK => ?_) AllReadyIn.nil
            go_simp
            refine hK _ _ ?_
            clear hK K
            obtain ⟨A1, n1, c1, w1, hrun, hc1, hf1, hri⟩ := HAPP.out (1 + nd2)
            refine wpAnyIn_ready (rs := [4]) (by kernel_rfl) (by simp) ?_
            refine AllReadyIn.cons rfl (fun K hK => ?_) AllReadyIn.nil
            refine append_in (v := vj) (y := .slice (some ⟨wr.heap.size, 0, none⟩) 1 1) (v1 := .slice A1 n1 c1) (w1 := w1) (by rfl) (.tmp 23) (.tmp 26) 22 rfl rfl rfl hrun ?_
            refine hK _ _ ?_
            clear hK K hrun
            refine wpAnyIn_ready (rs := [5]) (by kernel_rfl) (by simp) ?_
            refine AllReadyIn.cons rfl (fun K hK => ?_) AllReadyIn.nil
            go_simp
            refine hK _ _ ?_
            clear hK K
            refine wpAnyIn_done (by kernel_rfl) ?_ _
            have HRI := Lib.hid hri
            clear hri
            gi_wp2
            go_roundw
            case rel => exact ⟨j + 1, by omega, by go_num, HRI.out⟩
            case measure => simp [intOf]; omega
          · go_simp
            refine ⟨trivial, ?_⟩
            refine HINT.out.mono ?_
            rintro e w' ⟨rfl, nd2, rfl⟩
            have hcA := HCA.out (1 + nd2)
            go_simp
            refine hK _ _ ?_
            clear hK K
            refine wpAnyIn_ready (rs := [0, 3]) (by kernel_rfl) (by simp) ?_
            refine AllReadyIn.cons rfl (fun K hK => ?_) (AllReadyIn.cons rfl (fun K hK => ?_) AllReadyIn.nil)
            · go_simp
              refine hK _ _ ?_
              clear hK K
              refine wpAnyIn_ready (rs := [3]) (by kernel_rfl) (by simp) ?_
              refine AllReadyIn.cons rfl (fun K hK => ?_) AllReadyIn.nil
              go_simp
              refine hK _ _ ?_
              clear hK K
              obtain ⟨A1, n1, c1, w1, hrun, hc1, hf1, hri⟩ := HAPP.out (1 + nd2)
              refine wpAnyIn_ready (rs := [4]) (by kernel_rfl) (by simp) ?_
              refine AllReadyIn.cons rfl (fun K hK => ?_) AllReadyIn.nil
              refine append_in (v := vj) (y := .slice (some ⟨wr.heap.size, 0, none⟩) 1 1) (v1 := .slice A1 n1 c1) (w1 := w1) (by rfl) (.tmp 23) (.tmp 26) 22 rfl rfl rfl hrun ?_
              refine hK _ _ ?_
              clear hK K hrun
              refine wpAnyIn_ready (rs := [5]) (by kernel_rfl) (by simp) ?_
              refine AllReadyIn.cons rfl (fun K hK => ?_) AllReadyIn.nil
              go_simp
              refine hK _ _ ?_
              clear hK K
              refine wpAnyIn_done (by kernel_rfl) ?_ _
              have HRI := Lib.hid hri
              clear hri
              gi_wp2
              go_roundw
              case rel => exact ⟨j + 1, by omega, by go_num, HRI.out⟩
              case measure => simp [intOf]; omega
            · go_simp
              refine hK _ _ ?_
              clear hK K
              refine wpAnyIn_ready (rs := [0]) (by kernel_rfl) (by simp) ?_
              refine AllReadyIn.cons rfl (fun K hK => ?_) AllReadyIn.nil
              go_simp
              refine hK _ _ ?_
              clear hK K
              obtain ⟨A1, n1, c1, w1, hrun, hc1, hf1, hri⟩ := HAPP.out (1 + nd2)
              refine wpAnyIn_ready (rs := [4]) (by kernel_rfl) (by simp) ?_
              refine AllReadyIn.cons rfl (fun K hK => ?_) AllReadyIn.nil
              refine append_in (v := vj) (y := .slice (some ⟨wr.heap.size, 0, none⟩) 1 1) (v1 := .slice A1 n1 c1) (w1 := w1) (by rfl) (.tmp 23) (.tmp 26) 22 rfl rfl rfl hrun ?_
              refine hK _ _ ?_
              clear hK K hrun
              refine wpAnyIn_ready (rs := [5]) (by kernel_rfl) (by simp) ?_
              refine AllReadyIn.cons rfl (fun K hK => ?_) AllReadyIn.nil
              go_simp
              refine hK _ _ ?_
              clear hK K
              refine wpAnyIn_done (by kernel_rfl) ?_ _
              have HRI := Lib.hid hri
              clear hri
              gi_wp2
              go_roundw
              case rel => exact ⟨j + 1, by omega, by go_num, HRI.out⟩
              case measure => simp [intOf]; omega
      · obtain rfl : j = m := by omega
        have d3 : decide ((j : Int) < (j : Int)) = false := decide_eq_false (by omega)
        obtain ⟨vj, hvj, hoj⟩ := HR.out.own
        rw [List.take_of_length_le (by rw [HM.out]; exact Nat.le_refl _)] at hoj
        have hfin : RPost (n₀ + 1) k (fun k => CSt n₀ n₀ (n₀ + 1) w (rowI k)) W1.heap.size W .normal { tmps := #[], defers := [] } wr := ⟨HR.out.kf, HR.out.kp, ⟨⟨vj, hvj, by rw [show rowI (k + 1) = F.map (fun x : Nat => (x : Int)) by rw [← HF.out]; rfl]; exact hoj⟩, HR.out.below⟩⟩
        have HFIN := Lib.hid hfin
        clear hvj hoj hfin
        gi_wp2
        exact HFIN.out
  case done =>
    intro D W hD hI hK
    obtain ⟨⟨v, hv, ho⟩, hb⟩ := hI
    have hvc := hv.cell
    gi_wp2
    refine ⟨by simp, .inl ⟨_, _, rfl, run_takeDeferred hK, ?_⟩⟩
    have hown := own_move ho (w1 := W.putObj D (.deferred none)) fun r hr => World.putObj_heap_other (by
      rintro rfl
      obtain ⟨cells, hc⟩ := own_typed ho r hr
      rw [hK] at hc
      cases hc)
    have hR : Kd.R (Kd.int .i64) 3 (W.putObj D (.deferred none)) (n₀ + 2) (fun _ => True) v (rowI n) := Kd.R_of_own hown (fun _ _ => trivial)
    refine ⟨_, results_tmp2 rfl _ _ _, v, rfl, Kd.R_lower hR (by omega), ?_⟩
    rw [hn₀]
    exact hb.trans (belowK_b (w := W1) (by omega) W D _ _ (by omega) hK rfl rfl)
end Go.Proofs.Ytfopeenjpdaacaa.PC
end
section
set_option linter.unusedVariables false
set_option linter.unusedSimpArgs false
namespace Go.Proofs.Ytfopeenjpdaacaa.PC
open Go.RowKit Go.Proofs.YtfopeenjpdaacaaW.PrintWords Go.Proofs.YtfopeenjpdaacaaW.PrintLast Go.Proofs.YtfopeenjpdaacaaW.PrintMore
attribute [local go_sem] max2_int min2_int max_two min_two max_three min_three max_four min_four   -- for this text's walks alone
set_option linter.unusedVariables false
set_option linter.unusedSimpArgs false
/-! ### chairs_Spread: function 24 -/
/-- how many good lists there are for each distance -/
def chairs_Spread.f (a0 : Int) : Option (List Int × Int) :=
 if a0 < 1 ∨ a0 > 10 then some ([], 2) else some (rowI a0.toNat, 0)
section
theorem spread_err (a0 : Int) (w : World) (h : a0 < 1 ∨ a0 > 10) :
  Calls Try.prog 24 #[.int .i64 a0] w fun e w' => e = .returned (.tuple #[.slice none 0 0, .int .i64 2]) ∧ Below w.heap.size w w' := by
 by_cases h1 : a0 < 1
 ·have d1 : decide (a0 < 1) = true := decide_eq_true h1
  go_enter Try.func24, Try.ntmps24
  go_wp2
  go_ret2
  exact ⟨rfl, Below.refl _ _⟩
 ·have d1 : decide (a0 < 1) = false := decide_eq_false h1
  have d2 : decide (10 < a0) = true := decide_eq_true (by omega)
  go_enter Try.func24, Try.ntmps24
  go_wp2
  go_ret2
  exact ⟨rfl, Below.refl _ _⟩
theorem chairs_Spread.calls (a0 : Int) (r1 : List Int) (r2 : Int) (w : World) (h : chairs_Spread.f a0 = some (r1, r2)) :
  Calls Try.prog 24 #[.int .i64 a0] w fun e w' => ∃ v0_ : Value, e = .returned (.tuple #[v0_, .int .i64 r2]) ∧ Kd.R (Kd.int .i64) 3 w' w.heap.size (fun _ => True) v0_ r1 ∧ Below w.heap.size w w' := by
 unfold chairs_Spread.f at h
 by_cases c : a0 < 1 ∨ a0 > 10
 ·rw [if_pos c] at h
  have h' := Option.some.inj h
  obtain ⟨rfl, rfl⟩ := Prod.mk.inj h'
  exact (spread_err a0 w c).mono fun e w' ⟨he, hb⟩ => ⟨_, he, Kd.R_nil _ _ _ _ _, hb⟩
 ·rw [if_neg c] at h
  have h' := Option.some.inj h
  obtain ⟨rfl, rfl⟩ := Prod.mk.inj h'
  obtain ⟨n, rfl⟩ : ∃ n : Nat, a0 = (n : Int) := ⟨a0.toNat, by omega⟩
  rw [Int.toNat_natCast]
  exact spread_walk n (by omega) (by omega) w
end
end Go.Proofs.Ytfopeenjpdaacaa.PC
end
section
set_option linter.unusedVariables false
set_option linter.unusedSimpArgs false
/- A table of tables of numbers of one's own, no two rows of which are one: read, and written. -/
namespace Go.Proofs.Ytfopeenjpdaacaa.PC
open Go.RowKit Go.Proofs.YtfopeenjpdaacaaW.PrintWords Go.Proofs.YtfopeenjpdaacaaW.PrintLast Go.Proofs.YtfopeenjpdaacaaW.PrintMore
/-- A row of elements that lead to blocks of their own each. -/
def slS {α : Type} (e : Nat) (d : Kd α) : Kd (List α) where
  sz := 1
  E := e :: d.E
  K := (Kd.slice e d).K
  M := fun w base ok xs cs => ∃ v, cs = [v] ∧ Kd.S d e w base ok v xs
  K_len := (Kd.slice e d).K_len
  K_one := (Kd.slice e d).K_one
  K_below := (Kd.slice e d).K_below
  K_of_M := by
    rintro w base ok x cs ⟨v, rfl, h⟩
    obtain ⟨A, c, rfl, hl, hr⟩ := Kd.S_reads h
    exact ⟨A, c, rfl, hl, hr⟩
  M_mono := by
    rintro w base ok ok' x cs hok ⟨v, rfl, h⟩
    exact ⟨v, rfl, Kd.S_mono h hok⟩
  M_bound := by
    rintro w base ok x cs ⟨v, rfl, h⟩
    exact ⟨v, rfl, Kd.S_bound h⟩
  M_move := by
    rintro w w1 base ok x cs hm ⟨v, rfl, h⟩
    exact ⟨v, rfl, Kd.S_move h hm⟩
  M_lower := by
    rintro w base base' ok x cs hb ⟨v, rfl, h⟩
    exact ⟨v, rfl, Kd.S_lower h hb⟩
abbrev Tab (W : World) (base : Nat) (ok : Nat → Prop) (v : Value) (T : List (List (List Int))) : Prop := Kd.S (slS 22 (Kd.slice 3 (Kd.int .i64))) 55 W base ok v T
def g2 (T : List (List (List Int))) (a b : Nat) : List Int := (T.getD a []).getD b []
def g3 (T : List (List (List Int))) (a b d : Nat) : Int := rd (g2 T a b) (d : Int)
def s3 (T : List (List (List Int))) (a b d : Nat) (x : Int) : List (List (List Int)) := T.set a ((T.getD a []).set b ((g2 T a b).set d x))
/-- n1 by n1 rows of m1 numbers -/
structure Sh (T : List (List (List Int))) (n1 m1 : Nat) : Prop where
  l1 : T.length = n1
  l2 : ∀ a, a < n1 → (T.getD a []).length = n1
  l3 : ∀ a b, a < n1 → b < n1 → (g2 T a b).length = m1
theorem getD_set {α : Type} (l : List α) (i j : Nat) (x z : α) (h : i < l.length) : (l.set i x).getD j z = if i = j then x else l.getD j z := by
  simp only [List.getD_eq_getElem?_getD, List.getElem?_set]
  by_cases e : i = j
  · rw [if_pos e, if_pos e, if_pos h]; rfl
  · rw [if_neg e, if_neg e]
theorem Sh.set {T : List (List (List Int))} {n m : Nat} (h : Sh T n m) {a b : Nat} (ha : a < n) (hb : b < n) (d : Nat) (x : Int) : Sh (s3 T a b d x) n m := by
  have h1 := h.l1
  have h2 := h.l2 a ha
  refine ⟨by rw [s3, List.length_set]; exact h1, fun a' ha' => ?_, fun a' b' ha' hb' => ?_⟩
  · rw [s3, getD_set _ _ _ _ _ (by omega)]
    split
    · rw [List.length_set]; exact h2
    · exact h.l2 a' ha'
  · rw [g2, s3, getD_set _ _ _ _ _ (by omega)]
    split
    · rw [getD_set _ _ _ _ _ (by omega)]
      split
      · rw [List.length_set]; exact h.l3 a b ha hb
      · rename_i e1 e2; subst e1; exact h.l3 a b' ha hb'
    · exact h.l3 a' b' ha' hb'
section
variable {W : World} {base n m c gt : Nat} {ok : Nat → Prop} {T : List (List (List Int))}
theorem tab_form {v : Value} (h : Tab W base ok v T) (hs : Sh T n m) (hn : 0 < n) : ∃ g c, v = .slice (some ⟨g, 0, none⟩) n c := by
  have hl1 := hs.l1
  obtain ⟨g, c, e, _⟩ := Kd.S_form h (by omega)
  exact ⟨g, c, by rw [e, hl1]⟩
/-- an entry is read and written -/
theorem tab_put (h : Tab W base ok (.slice (some ⟨gt, 0, none⟩) n c) T) (hs : Sh T n m) {a b d : Nat} (ha : a < n) (hb : b < n) (hd : d < m) :
    ∃ ga ca gb cb, W.cell? ⟨gt, a, none⟩ = some (.slice (some ⟨ga, 0, none⟩) n ca) ∧ W.cell? ⟨ga, b, none⟩ = some (.slice (some ⟨gb, 0, none⟩) m cb) ∧ W.cell? ⟨gb, d, none⟩ = some (.int .i64 (g3 T a b d)) ∧ W.frozen? ⟨gb, d, none⟩ = false ∧ ok gb ∧ base ≤ gb ∧
      ∀ x, Tab (W.setCell ⟨gb, d, none⟩ (.int .i64 x)) base ok (.slice (some ⟨gt, 0, none⟩) n c) (s3 T a b d x) := by
  have hl1 := hs.l1
  obtain ⟨ok1, cs1, _, hM1, hc1, ho1, hb1⟩ := Kd.S_borrow h ([] : List (List Int)) (a : Int) (by omega) (by omega)
  rw [Int.toNat_natCast] at hM1 hc1 hb1
  obtain ⟨v2, rfl, hS2⟩ := hM1
  obtain ⟨A2, c2, rfl⟩ := Kd.S_slice hS2
  have el2 := hs.l2 a ha
  have q1 := hc1 0 _ rfl
  rw [el2] at hS2 hb1 q1
  obtain ⟨ga, cp, ef, _⟩ := Kd.S_form hS2 (by omega)
  injection ef with ef _ _
  subst ef
  have q1' : W.cell? ⟨gt, a, none⟩ = some (.slice (some ⟨ga, 0, none⟩) n c2) := by
    have e : a * (slS 22 (Kd.slice 3 (Kd.int .i64))).sz + 0 = a := by show a * 1 + 0 = a; omega
    rw [e, add_plain] at q1; exact q1
  obtain ⟨ok2, cs2, _, hM2, hc2, ho2, hb2⟩ := Kd.S_borrow hS2 ([] : List Int) (b : Int) (by omega) (by omega)
  rw [Int.toNat_natCast] at hM2 hc2 hb2
  obtain ⟨v3, rfl, hR3⟩ := hM2
  have el3 : ((T.getD a []).getD b []).length = m := hs.l3 a b ha hb
  obtain ⟨gb, c3, rfl, hbg, _, cells, hty⟩ := Kd.R_form hR3 (by omega)
  have q2 := hc2 0 _ rfl
  rw [el3] at hR3 hb2 q2
  have q2' : W.cell? ⟨ga, b, none⟩ = some (.slice (some ⟨gb, 0, none⟩) m c3) := by
    have e : b * (Kd.slice 3 (Kd.int .i64)).sz + 0 = b := by show b * 1 + 0 = b; omega
    rw [e, add_plain] at q2; exact q2
  obtain ⟨q3, q4⟩ := Kd.R_celln 0 hR3 (d : Int) (by omega) (by omega)
  rw [Int.toNat_natCast] at q3 q4
  have hg : ok2 gb := hR3.1 gb (by simp [Value.ownBlock])
  refine ⟨ga, c2, gb, c3, q1', q2', q3, q4, (ho1 gb (ho2 gb hg).1).1, hbg, fun x => ?_⟩
  have hp := Kd.R_putg hR3 (d : Int) x
  rw [Int.toNat_natCast] at hp
  have hS2' := hb2 hp.2 (fun k hk => by injection hk with hk; subst hk; exact hg) ⟨_, rfl, hp.1⟩
  exact hb1 hp.2 (fun k hk => by injection hk with hk; subst hk; exact (ho2 gb hg).1) ⟨_, rfl, hS2'⟩
/-- the row at the table's head -/
theorem tab_row (h : Tab W base ok (.slice (some ⟨gt, 0, none⟩) n c) T) (hs : Sh T n m) (hn : 0 < n) :
    ∃ ga ca v3, W.cell? ⟨gt, 0, none⟩ = some (.slice (some ⟨ga, 0, none⟩) n ca) ∧ W.cell? ⟨ga, 0, none⟩ = some v3 ∧ Kd.R (Kd.int .i64) 3 W base (fun _ => True) v3 (g2 T 0 0) := by
  have hl1 := hs.l1
  obtain ⟨ok1, cs1, _, hM1, hc1, ho1, hb1⟩ := Kd.S_borrow h ([] : List (List Int)) 0 (by omega) (by omega)
  obtain ⟨v2, rfl, hS2⟩ := hM1
  obtain ⟨A2, c2, rfl⟩ := Kd.S_slice hS2
  have el2 : (T.getD (0 : Int).toNat []).length = n := hs.l2 0 hn
  have q1 := hc1 0 _ rfl
  rw [el2] at hS2 q1
  obtain ⟨ga, cp, ef, _⟩ := Kd.S_form hS2 (by omega)
  injection ef with ef _ _
  subst ef
  obtain ⟨ok2, cs2, _, hM2, hc2, ho2, hb2⟩ := Kd.S_borrow hS2 ([] : List Int) 0 (by omega) (by omega)
  obtain ⟨v3, rfl, hR3⟩ := hM2
  have q2 := hc2 0 _ rfl
  exact ⟨ga, c2, v3, q1, q2, Kd.R_mono hR3 (fun _ _ => trivial)⟩
end
/-- two tables: the elder one is read, the younger one written -/
structure St3 (w : World) (H gT cT gN cN n1 m1 : Nat) (T G : List (List (List Int))) (W : World) : Prop where
  below : Below w.heap.size w W
  t : Tab W w.heap.size (fun k => k < H) (.slice (some ⟨gT, 0, none⟩) n1 cT) T
  g : Tab W w.heap.size (fun k => H ≤ k) (.slice (some ⟨gN, 0, none⟩) n1 cN) G
  st : Sh T n1 m1
  sg : Sh G n1 m1
section
variable {w W W' : World} {H gT cT gN cN n1 m1 : Nat} {T G : List (List (List Int))}
theorem St3.step (h : St3 w H gT cT gN cN n1 m1 T G W) (hb : Below W.heap.size W W') : St3 w H gT cT gN cN n1 m1 T G W' :=
  ⟨h.below.trans (hb.mono h.below.size), Kd.S_below h.t hb, Kd.S_below h.g hb, h.st, h.sg⟩
theorem St3.drew (h : St3 w H gT cT gN cN n1 m1 T G W) : St3 w H gT cT gN cN n1 m1 T G W.drew := h.step (below_drew (Below.refl _ _))
theorem St3.drewN (h : St3 w H gT cT gN cN n1 m1 T G W) (m : Nat) : St3 w H gT cT gN cN n1 m1 T G (W.drewN m) := h.step (pw_below_drewN (Below.refl _ _) m)
/-- what a round reads, and what it leaves -/
theorem St3.cells (h : St3 w H gT cT gN cN n1 m1 T G W) {a b d l u e : Nat} (ha : a < n1) (hb : b < n1) (hd : d < m1) (hl : l < n1) (hu : u < n1) (he : e < m1) :
    ∃ ga ca gb cb ta da tb db, W.cell? ⟨gN, a, none⟩ = some (.slice (some ⟨ga, 0, none⟩) n1 ca) ∧ W.cell? ⟨ga, b, none⟩ = some (.slice (some ⟨gb, 0, none⟩) m1 cb) ∧ W.cell? ⟨gb, d, none⟩ = some (.int .i64 (g3 G a b d)) ∧
      W.cell? ⟨gT, l, none⟩ = some (.slice (some ⟨ta, 0, none⟩) n1 da) ∧ W.cell? ⟨ta, u, none⟩ = some (.slice (some ⟨tb, 0, none⟩) m1 db) ∧ W.cell? ⟨tb, e, none⟩ = some (.int .i64 (g3 T l u e)) ∧ W.frozen? ⟨gb, d, none⟩ = false ∧ H ≤ gb ∧ w.heap.size ≤ gb := by
  obtain ⟨ga, ca, gb, cb, h1, h2, h3, h4, h5, h6, _⟩ := tab_put h.g h.sg ha hb hd
  obtain ⟨ta, da, tb, db, k1, k2, k3, _⟩ := tab_put h.t h.st hl hu he
  exact ⟨ga, ca, gb, cb, ta, da, tb, db, h1, h2, h3, k1, k2, k3, h4, h5, h6⟩
theorem St3.put (h : St3 w H gT cT gN cN n1 m1 T G W) {a b d ga ca gb cb : Nat} (ha : a < n1) (hb : b < n1) (hd : d < m1) (h1 : W.cell? ⟨gN, a, none⟩ = some (.slice (some ⟨ga, 0, none⟩) n1 ca)) (h2 : W.cell? ⟨ga, b, none⟩ = some (.slice (some ⟨gb, 0, none⟩) m1 cb)) (x : Int) :
    St3 w H gT cT gN cN n1 m1 T (s3 G a b d x) (W.setCell ⟨gb, d, none⟩ (.int .i64 x)) := by
  obtain ⟨ga', ca', gb', cb', k1, k2, k3, k4, k5, k6, k7⟩ := tab_put h.g h.sg ha hb hd
  rw [h1] at k1
  injection k1 with k1
  injection k1 with k1 _ _
  injection k1 with k1
  injection k1 with k1 _ _
  subst k1
  rw [h2] at k2
  injection k2 with k2
  injection k2 with k2 _ _
  injection k2 with k2
  injection k2 with k2 _ _
  subst k2
  exact ⟨h.below.setCell (p := ⟨gb, d, none⟩) k6 _, Kd.S_far (p := ⟨gb, d, none⟩) h.t (fun k hk e => by have e' : k = gb := e; omega) _, k7 x, h.st, h.sg.set ha hb d x⟩
end
end Go.Proofs.Ytfopeenjpdaacaa.PC
end
section
set_option linter.unusedVariables false
set_option linter.unusedSimpArgs false
namespace Go.Proofs.Ytfopeenjpdaacaa.PC
open Go.RowKit Go.Proofs.YtfopeenjpdaacaaW.PrintWords Go.Proofs.YtfopeenjpdaacaaW.PrintLast Go.Proofs.YtfopeenjpdaacaaW.PrintMore
attribute [local go_sem] max2_int min2_int max_two min_two max_three min_three max_four min_four   -- for this text's walks alone
set_option linter.unusedVariables false
set_option linter.unusedSimpArgs false
/-! ### pomaderef03_choose: function 65 -/
def pomaderef03_choose.l0 : Nat → Int → Int → Int → Int → Option (Int)
 | 0, _, _, _, _ => none
 | k + 1, x0, x1, x5, x6 => if x6 ≤ x1 then (if x6 = 0 then (none) else (pomaderef03_choose.l0 k x0 x1 (wrap64 (Int.tdiv (wrap64 (x5 * (wrap64 ((wrap64 (x0 - x6)) + 1)))) x6)) (wrap64 (x6 + 1)))) else (some x5)
def pomaderef03_choose.f (k : Nat) (a0 : Int) (a1 : Int) : Option (Int) := pomaderef03_choose.l0 k a0 a1 1 1
theorem pomaderef03_choose.mono_l : ∀ k, (∀ y0 y1 y2 y3, LeO (pomaderef03_choose.l0 k y0 y1 y2 y3) (pomaderef03_choose.l0 (k + 1) y0 y1 y2 y3))
 | 0 => fun _ _ _ _ r h => by simp [pomaderef03_choose.l0] at h
 | k + 1 => by
  have ih0 := pomaderef03_choose.mono_l k
  ·intro y0 y1 y2 y3
   unfold pomaderef03_choose.l0
   repeat' first
   | (with_reducible exact ih0 _ _ _ _)
   | (with_reducible exact LeO.refl _)
   | (with_reducible exact LeO.none _)
   | (with_reducible refine LeO.ite ?_ ?_)
   | (with_reducible refine LeO.bind ?_ (fun _ => ?_))
   | exact ih0 _ _ _ _
   | exact LeO.none _
   | refine LeO.ite ?_ ?_
   | refine LeO.bind ?_ (fun _ => ?_)
theorem pomaderef03_choose.mono : ∀ a0 a1 k, LeO (pomaderef03_choose.f k a0 a1) (pomaderef03_choose.f (k + 1) a0 a1) := by
 intro a0 a1 k
 have ih0 := pomaderef03_choose.mono_l k
 unfold pomaderef03_choose.f
 repeat' first
   | (with_reducible exact ih0 _ _ _ _)
   | (with_reducible exact LeO.refl _)
   | (with_reducible exact LeO.none _)
   | (with_reducible refine LeO.ite ?_ ?_)
   | (with_reducible refine LeO.bind ?_ (fun _ => ?_))
   | exact ih0 _ _ _ _
   | exact LeO.none _
   | refine LeO.ite ?_ ?_
   | refine LeO.bind ?_ (fun _ => ?_)
set_option maxHeartbeats 8000000 in
set_option maxRecDepth 100000 in
theorem pomaderef03_choose.calls (k : Nat) (a0 : Int) (a1 : Int) (r : Int) (w : World) (h : pomaderef03_choose.f k a0 a1 = some r) :
  Calls Try.prog 65 #[.int .i64 a0, .int .i64 a1] w fun e w' => e = .returned (.int .i64 r) ∧ Drawn0 w w' := by
 have H : (pomaderef03_choose.l0 k a0 a1 1 1) = some r := h
 clear h
 have H' := Aside0.mk H
 clear H
 go_enter Try.func65, Try.ntmps65
 go_wp2
 go_loopg [5, 6] k (fun kq v5 v6 w' => ∃ (x5_1 : Int) (x6_1 : Int), v5 = .int .i64 x5_1 ∧ v6 = .int .i64 x6_1 ∧ Aside0 (pomaderef03_choose.l0 kq a0 a1 x5_1 x6_1 = some r) ∧ Aside0 (kq ≤ k) ∧ Drawn0 w w')
 case atStart => exact ⟨(1), (1), (by first | rfl | (simp; done) | (simp [*]; done)), (by first | rfl | (simp; done) | (simp [*]; done)), H', ⟨Nat.le_refl _⟩, by repeat (first | exact Drawn0.refl _ | apply Drawn0.step)⟩
 case round =>
  clear H'
  try clear p2
  obtain ⟨x5_1, x6_1, rfl, rfl, HA, HK1, ⟨m1, rfl⟩⟩ := hrel
  cases gk with
  | zero => exact absurd HA.out (by simp [pomaderef03_choose.l0])
  | succ k1 =>
   have H := HA.out
   clear HA
   simp only [pomaderef03_choose.l0] at H
   by_cases c3 : x6_1 ≤ a1
   ·rw [if_pos c3] at H
    have c3b0 : decide (x6_1 ≤ a1) = true := decide_eq_true c3
    clear c3
    by_cases c4 : x6_1 = 0
    ·rw [if_pos c4] at H
     exact absurd H (by simp)
    ·rw [if_neg c4] at H
     have c4b0 : (x6_1 == 0) = false := beq_eq_false_iff_ne.mpr c4
     have c4b1 : (x6_1 != 0) = true := bne_iff_ne.mpr c4
     have H' := Aside0.mk H
     clear H
     go_wp2
     go_roundg k1
     case measure => have := HK1.out; omega
     case rel => exact ⟨(wrap64 (Int.tdiv (wrap64 (x5_1 * (wrap64 ((wrap64 (a0 - x6_1)) + 1)))) x6_1)), (wrap64 (x6_1 + 1)), (by first | rfl | (simp; done) | (simp [*]; done)), (by first | rfl | (simp; done) | (simp [*]; done)), H', ⟨by have := HK1.out; omega⟩, by repeat (first | exact Drawn0.refl _ | apply Drawn0.step)⟩
   ·rw [if_neg c3] at H
    have c3b0 : decide (x6_1 ≤ a1) = false := decide_eq_false c3
    clear c3
    obtain rfl := Option.some.inj H
    go_wp2
    go_ret
    exact ⟨by first | rfl | (simp; done) | (simp [*]; done), by repeat (first | exact Drawn0.refl _ | apply Drawn0.step)⟩
end Go.Proofs.Ytfopeenjpdaacaa.PC
end
section
set_option linter.unusedVariables false
set_option linter.unusedSimpArgs false
namespace Go.Proofs.Ytfopeenjpdaacaa.PC
open Go.RowKit Go.Proofs.YtfopeenjpdaacaaW.PrintWords Go.Proofs.YtfopeenjpdaacaaW.PrintLast Go.Proofs.YtfopeenjpdaacaaW.PrintMore
attribute [local go_sem] max2_int min2_int max_two min_two max_three min_three max_four min_four   -- for this text's walks alone
set_option linter.unusedVariables false
set_option linter.unusedSimpArgs false
/-! ### pomaderef03_empty: function 75 -/
mutual
def pomaderef03_empty.l0 : Nat → Int → Int → List (List (List Int)) → Int → Option ((List (List (List Int))))
 | 0, _, _, _, _ => none
 | k + 1, x0, x1, x5, x6 => if x6 ≤ x0 then (pomaderef03_empty.l1 k x0 x1 x5 x6 ([] : List (List Int)) 0) else (some x5)
def pomaderef03_empty.l1 : Nat → Int → Int → List (List (List Int)) → Int → List (List Int) → Int → Option ((List (List (List Int))))
 | 0, _, _, _, _, _, _ => none
 | k + 1, x0, x1, x5, x6, x7, x8 => if x8 ≤ x0 then (if 0 ≤ (wrap64 (x1 + 1)) then (if (wrap64 (x1 + 1) : Int).toNat ≤ 35184372088832 then (if x7.length < 5864062014805 then (pomaderef03_empty.l1 k x0 x1 x5 x6 (x7 ++ [(List.replicate (wrap64 (x1 + 1) : Int).toNat 0)]) (wrap64 (x8 + 1))) else (none)) else (none)) else (none)) else (if x5.length < 5864062014805 then (pomaderef03_empty.l0 k x0 x1 (x5 ++ [x7]) (wrap64 (x6 + 1))) else (none))
end
def pomaderef03_empty.f (k : Nat) (a0 : Int) (a1 : Int) : Option ((List (List (List Int)))) := pomaderef03_empty.l0 k a0 a1 ([] : List (List (List Int))) 0
theorem pomaderef03_empty.mono_l : ∀ k, (∀ y0 y1 y2 y3, LeO (pomaderef03_empty.l0 k y0 y1 y2 y3) (pomaderef03_empty.l0 (k + 1) y0 y1 y2 y3)) ∧ (∀ y0 y1 y2 y3 y4 y5, LeO (pomaderef03_empty.l1 k y0 y1 y2 y3 y4 y5) (pomaderef03_empty.l1 (k + 1) y0 y1 y2 y3 y4 y5))
 | 0 => ⟨fun _ _ _ _ r h => by simp [pomaderef03_empty.l0] at h, fun _ _ _ _ _ _ r h => by simp [pomaderef03_empty.l1] at h⟩
 | k + 1 => by
  obtain ⟨ih0, ih1⟩ := pomaderef03_empty.mono_l k
  refine ⟨?_, ?_⟩
  ·intro y0 y1 y2 y3
   unfold pomaderef03_empty.l0
   repeat' first
   | (with_reducible exact ih0 _ _ _ _)
   | (with_reducible exact ih1 _ _ _ _ _ _)
   | (with_reducible exact LeO.refl _)
   | (with_reducible exact LeO.none _)
   | (with_reducible refine LeO.ite ?_ ?_)
   | (with_reducible refine LeO.bind ?_ (fun _ => ?_))
   | exact ih0 _ _ _ _
   | exact ih1 _ _ _ _ _ _
   | exact LeO.none _
   | refine LeO.ite ?_ ?_
   | refine LeO.bind ?_ (fun _ => ?_)
  ·intro y0 y1 y2 y3 y4 y5
   unfold pomaderef03_empty.l1
   repeat' first
   | (with_reducible exact ih0 _ _ _ _)
   | (with_reducible exact ih1 _ _ _ _ _ _)
   | (with_reducible exact LeO.refl _)
   | (with_reducible exact LeO.none _)
   | (with_reducible refine LeO.ite ?_ ?_)
   | (with_reducible refine LeO.bind ?_ (fun _ => ?_))
   | exact ih0 _ _ _ _
   | exact ih1 _ _ _ _ _ _
   | exact LeO.none _
   | refine LeO.ite ?_ ?_
   | refine LeO.bind ?_ (fun _ => ?_)
theorem pomaderef03_empty.mono : ∀ a0 a1 k, LeO (pomaderef03_empty.f k a0 a1) (pomaderef03_empty.f (k + 1) a0 a1) := by
 intro a0 a1 k
 obtain ⟨ih0, ih1⟩ := pomaderef03_empty.mono_l k
 unfold pomaderef03_empty.f
 repeat' first
   | (with_reducible exact ih0 _ _ _ _)
   | (with_reducible exact ih1 _ _ _ _ _ _)
   | (with_reducible exact LeO.refl _)
   | (with_reducible exact LeO.none _)
   | (with_reducible refine LeO.ite ?_ ?_)
   | (with_reducible refine LeO.bind ?_ (fun _ => ?_))
   | exact ih0 _ _ _ _
   | exact ih1 _ _ _ _ _ _
   | exact LeO.none _
   | refine LeO.ite ?_ ?_
   | refine LeO.bind ?_ (fun _ => ?_)
set_option maxHeartbeats 8000000 in
set_option maxRecDepth 100000 in
theorem pomaderef03_empty.calls (k : Nat) (a0 : Int) (a1 : Int) (r : List (List (List Int))) (w : World) (h : pomaderef03_empty.f k a0 a1 = some r) :
  Calls Try.prog 75 #[.int .i64 a0, .int .i64 a1] w fun e w' => ∃ v0_ : Value, e = .returned (v0_) ∧ Kd.R (Kd.slice 22 (Kd.slice 3 (Kd.int .i64))) 55 w' w.heap.size (fun _ => True) v0_ r ∧ Below w.heap.size w w' := by
 have HB := Aside0.mk (Below.refl w.heap.size w)
 have H : (pomaderef03_empty.l0 k a0 a1 ([] : List (List (List Int))) 0) = some r := h
 clear h
 have H' := Aside0.mk H
 clear H
 go_enter Try.func75, Try.ntmps75
 go_wp2
 go_loopg [5, 6] k (fun kq v5 v6 w' => ∃ (x5_1 : List (List (List Int))) (x6_1 : Int), v6 = .int .i64 x6_1 ∧ Aside0 (pomaderef03_empty.l0 kq a0 a1 x5_1 x6_1 = some r) ∧ Aside0 (kq ≤ k) ∧ Aside0 (Kd.R (Kd.slice 22 (Kd.slice 3 (Kd.int .i64))) 55 w' w.heap.size (fun _ => True) v5 x5_1) ∧ Aside0 (Below w.heap.size w w'))
 case atStart => exact ⟨(([] : List (List (List Int)))), (0), (by first | rfl | (simp; done) | (simp [*]; done)), H', ⟨Nat.le_refl _⟩, ⟨by first | exact Kd.R_nil _ _ _ _ _ | exact Kd.N_nil _ _ _ _ _ | exact Kd.V_nil _ _ _ _ _ | exact Kd.Q_nil _ _ _ _ _ | exact Kd.S_nil _ _ _ _ _⟩, ⟨by repeat (first | (with_reducible first | exact HB.out | apply below_alloc | apply pw_below_drewN | apply below_drew1) | exact HB.out)⟩⟩
 case round =>
  clear H'
  try clear p2
  obtain ⟨x5_1, x6_1, rfl, HA, HK1, HO_5, HB⟩ := hrel
  cases gk with
  | zero => exact absurd HA.out (by simp [pomaderef03_empty.l0])
  | succ k1 =>
   have H := HA.out
   clear HA
   simp only [pomaderef03_empty.l0] at H
   by_cases c3 : x6_1 ≤ a0
   ·rw [if_pos c3] at H
    have c3b0 : decide (x6_1 ≤ a0) = true := decide_eq_true c3
    clear c3
    have H' := Aside0.mk H
    clear H
    go_wp2
    go_loopg [7, 8] k1 (fun kq v7 v8 w' => ∃ (x7_2 : List (List Int)) (x8_2 : Int), v8 = .int .i64 x8_2 ∧ Aside0 (pomaderef03_empty.l1 kq a0 a1 x5_1 x6_1 x7_2 x8_2 = some r) ∧ Aside0 (kq ≤ k1) ∧ Aside0 (Kd.R (Kd.slice 22 (Kd.slice 3 (Kd.int .i64))) 55 w' w.heap.size (fun k_ => some k_ ≠ (v7 : Value).ownBlock) u5 x5_1) ∧ Aside0 (Kd.S (Kd.slice 3 (Kd.int .i64)) 22 w' w.heap.size (fun _ => True) v7 x7_2) ∧ Aside0 (Below w.heap.size w w'))
    case atStart => exact ⟨(([] : List (List Int))), (0), (by first | rfl | (simp; done) | (simp [*]; done)), H', ⟨Nat.le_refl _⟩, ⟨by (with_reducible repeat (first | apply Kd.R_alloc | apply Kd.R_drewN | apply Kd.R_drew)); exact Kd.R_mono HO_5.out (fun _ hk => (by simp [Value.ownBlock]))⟩, ⟨by first | exact Kd.S_nil _ _ _ _ _ | exact Kd.N_nil _ _ _ _ _ | exact Kd.V_nil _ _ _ _ _ | exact Kd.Q_nil _ _ _ _ _ | exact Kd.R_nil _ _ _ _ _⟩, ⟨by repeat (first | (with_reducible first | exact HB.out | apply below_alloc | apply pw_below_drewN | apply below_drew1) | exact HB.out)⟩⟩
    case round =>
     clear H'
     try clear p2
     try clear c3
     try clear c3b0
     try clear p2
     obtain ⟨x7_2, x8_2, rfl, HA, HK2, HO_5, HO_7, HB⟩ := hrel
     cases gk with
     | zero => exact absurd HA.out (by simp [pomaderef03_empty.l1])
     | succ k2 =>
      have H := HA.out
      clear HA
      simp only [pomaderef03_empty.l1] at H
      by_cases c4 : x8_2 ≤ a0
      ·rw [if_pos c4] at H
       have c4b0 : decide (x8_2 ≤ a0) = true := decide_eq_true c4
       clear c4
       obtain ⟨ji5, hji5⟩ : ∃ j_ : Int, (wrap64 (a1 + 1)) = j_ := ⟨_, rfl⟩
       replace H : (if 0 ≤ (ji5) then (if (ji5 : Int).toNat ≤ 35184372088832 then (if x7_2.length < 5864062014805 then (pomaderef03_empty.l1 k2 a0 a1 x5_1 x6_1 (x7_2 ++ [(List.replicate (ji5 : Int).toNat 0)]) (wrap64 (x8_2 + 1))) else (none)) else (none)) else (none)) = some r := by first | (rw [hji5] at H; exact H) | (simp only [hji5] at H ⊢; exact H)
       have hji5w : (IntKind.i64.wrap (a1 + 1)) = ji5 := (i64_w _).trans hji5
       by_cases c6 : 0 ≤ (ji5)
       ·rw [if_pos c6] at H
        have c6b0 := eq_true c6
        have c6b1 : decide (0 ≤ (ji5)) = true := decide_eq_true c6
        clear c6
        by_cases c7 : (ji5 : Int).toNat ≤ 35184372088832
        ·rw [if_pos c7] at H
         have c7b0 := eq_true c7
         have c7b1 : decide ((ji5 : Int).toNat ≤ 35184372088832) = true := decide_eq_true c7
         clear c7
         obtain ⟨y395, hy395⟩ : ∃ y_ : List Int, y_ = (List.replicate (ji5 : Int).toNat 0) := ⟨_, rfl⟩
         replace H : (if x7_2.length < 5864062014805 then (pomaderef03_empty.l1 k2 a0 a1 x5_1 x6_1 (x7_2 ++ [y395]) (wrap64 (x8_2 + 1))) else (none)) = some r := by first | (rw [hy395]; with_reducible exact H) | (have H2_ := (Option.bind_some _ _).symm.trans H; rw [hy395]; with_reducible exact H2_) | (have H2_ := (Option.bind_some _ _).symm.trans H; with_reducible exact H2_) | with_reducible exact H | (rw [hy395]; exact H) | exact H
         have Ny395 := Aside0.mk hy395
         clear hy395
         by_cases c8 : x7_2.length < 5864062014805
         ·rw [if_pos c8] at H
          have LMc8 := Aside0.mk c8
          clear c8
          obtain ⟨y398, hy398⟩ : ∃ y_ : List (List Int), y_ = (x7_2 ++ [y395]) := ⟨_, rfl⟩
          replace H : (pomaderef03_empty.l1 k2 a0 a1 x5_1 x6_1 y398 (wrap64 (x8_2 + 1))) = some r := by first | (rw [hy398]; with_reducible exact H) | (have H2_ := (Option.bind_some _ _).symm.trans H; rw [hy398]; with_reducible exact H2_) | (have H2_ := (Option.bind_some _ _).symm.trans H; with_reducible exact H2_) | with_reducible exact H | (rw [hy398]; exact H) | exact H
          have Ny398 := Aside0.mk hy398
          clear hy398
          have H' := Aside0.mk H
          clear H
          go_wp2_with (first | ((with_reducible refine gate_dst (N := 22) rfl ?_); refine Kd.R_make (Kd.int .i64) _ 3 rfl (N := 22) rfl 22 _ _ rfl ji5 rfl rfl Try.underlying22 (.int .i64 0) 8 info3 rfl (by decide) (by omega) 0 (ok := fun _ => True) (okp := fun _ => True) rfl (fun _ hk => hk) trivial (of_decide_eq_true (by first | (with_reducible assumption) | assumption)) (Nat.le_trans (Nat.mul_le_mul_right _ (of_decide_eq_true (by first | (with_reducible assumption) | assumption) : ji5.toNat ≤ 35184372088832)) (by omega)) (Below.refl _ _) (Nat.le_refl _) ?_; intro v396 w9 ho10 hb hg_ hnew_; clear hg_ hnew_; (first | rw [← Ny395.out] at ho10 | (simp only [Int.reduceToNat] at ho10; rw [← Ny395.out] at ho10)); have n0_ := Aside0.mk (Kd.R_elder' (by (with_reducible repeat (first | apply Kd.R_alloc | apply Kd.R_drewN | apply Kd.R_drew)); exact HO_5.out) (Kd.R_base ho10) hb); have n1_ := Aside0.mk (Kd.S_elder' (by (with_reducible repeat (first | apply Kd.S_alloc | apply Kd.S_drewN | apply Kd.S_drew)); exact HO_7.out) (Kd.R_base ho10) hb); have n2_ := Aside0.mk (Kd.R_lower ho10 (below_size (by repeat (first | (with_reducible first | exact HB.out | apply below_alloc | apply pw_below_drewN | apply below_drew1) | exact HB.out)))); have n3_ := Aside0.mk (below_step (by repeat (first | (with_reducible first | exact HB.out | apply below_alloc | apply pw_below_drewN | apply below_drew1) | exact HB.out)) hb); clear HO_5; clear HO_7; clear HB; have HO_5 := n0_; have HO_7 := n1_; have HO397 := n2_; have HB := n3_; clear n0_ n1_ n2_ n3_; clear hb ho10; obtain ⟨Ao12, co12, eo12⟩ := Kd.R_slice HO397.out; subst eo12) | ((with_reducible refine gate_builtin (b := .append) (xs := #[.tmp 19, .tmp 23]) rfl ?_); at_builtin; refine Kd.S_append (Kd.slice 3 (Kd.int .i64)) (w0 := w) w.heap.size rfl (.tmp 19) (.tmp 23) 55 22 (.slice none 0 0) 24 rfl Try.underlying55 info22 rfl (by decide) (by omega) u7 x7_2 y395 [.slice Ao12 y395.length co12] (fun _ => True) (fun k_ => some k_ = (.slice Ao12 y395.length co12 : Value).ownBlock) rfl rfl ?aP (fun k_ hk_ => ((Kd.R_mono (ok' := fun k_ => ((fun _ => True)) k_ ∧ some k_ ≠ (u7 : Value).ownBlock) (Kd.R_apart' (HO397.out) (Kd.S_typed HO_7.out) (by decide)) (fun k_ hk => ⟨trivial, hk.2⟩))).1 k_ hk_.symm) ?aF ?aO ?aB ?aS ?aL ?_; (case aP => exact Kd.M_row (Kd.R_mono (Kd.R_tight rfl (Kd.R_mono (ok' := fun k_ => ((fun _ => True)) k_ ∧ some k_ ≠ (u7 : Value).ownBlock) (Kd.R_apart' (HO397.out) (Kd.S_typed HO_7.out) (by decide)) (fun k_ hk => ⟨trivial, hk.2⟩))) (fun _ h_ => h_))); (case aB => exact (by repeat (first | (with_reducible first | exact HB.out | apply below_alloc | apply pw_below_drewN | apply below_drew1) | exact HB.out))); (case aF => exact (fun _ _ => trivial)); (case aO => exact (by (with_reducible repeat (first | apply Kd.S_alloc | apply Kd.S_drewN | apply Kd.S_drew)); exact Kd.S_mono HO_7.out (fun k_ hk => ⟨trivial, fun e_ => hk.2 e_⟩))); (case aS => exact (below_size (by repeat (first | (with_reducible first | exact HB.out | apply below_alloc | apply pw_below_drewN | apply below_drew1) | exact HB.out)))); (case aL => have := LMc8.out; omega); intro v399 w11 ho hb hg hat; rw [← Ny398.out] at ho; have n0_ := Aside0.mk (Kd.R_after (ok := (fun k_ => some k_ ≠ (.slice Ao12 y395.length co12 : Value).ownBlock)) (by (with_reducible repeat (first | apply Kd.R_alloc | apply Kd.R_drewN | apply Kd.R_drew)); exact Kd.R_mono HO_5.out (fun _ hk => ⟨hk.2, hk.1⟩)) hg hat); have n1_ := Aside0.mk (hb); have n2_ := Aside0.mk (ho); clear HO_5; clear HB; clear HO_7; clear HO397; have HO_5 := n0_; have HB := n1_; have HO400 := n2_; clear n0_ n1_ n2_; clear ho hb hg hat))
          go_roundg k2
          case measure => have := HK1.out; have := HK2.out; omega
          case rel => exact ⟨(y398), (wrap64 (x8_2 + 1)), (by first | rfl | (simp; done) | (simp [*]; done)), H', ⟨by have := HK1.out; have := HK2.out; omega⟩, ⟨by (with_reducible repeat (first | apply Kd.R_alloc | apply Kd.R_drewN | apply Kd.R_drew)); exact Kd.R_mono HO_5.out (fun _ hk => hk.2)⟩, ⟨by (with_reducible repeat (first | apply Kd.S_alloc | apply Kd.S_drewN | apply Kd.S_drew)); exact HO400.out⟩, ⟨by repeat (first | (with_reducible first | exact HB.out | apply below_alloc | apply pw_below_drewN | apply below_drew1) | exact HB.out)⟩⟩
         ·rw [if_neg c8] at H
          exact absurd H (by simp)
        ·rw [if_neg c7] at H
         exact absurd H (by simp)
       ·rw [if_neg c6] at H
        exact absurd H (by simp)
      ·rw [if_neg c4] at H
       have c4b0 : decide (x8_2 ≤ a0) = false := decide_eq_false c4
       clear c4
       by_cases c13 : x5_1.length < 5864062014805
       ·rw [if_pos c13] at H
        have LMc13 := Aside0.mk c13
        clear c13
        obtain ⟨y401, hy401⟩ : ∃ y_ : List (List (List Int)), y_ = (x5_1 ++ [x7_2]) := ⟨_, rfl⟩
        replace H : (pomaderef03_empty.l0 k2 a0 a1 y401 (wrap64 (x6_1 + 1))) = some r := by first | (rw [hy401]; with_reducible exact H) | (have H2_ := (Option.bind_some _ _).symm.trans H; rw [hy401]; with_reducible exact H2_) | (have H2_ := (Option.bind_some _ _).symm.trans H; with_reducible exact H2_) | with_reducible exact H | (rw [hy401]; exact H) | exact H
        have Ny401 := Aside0.mk hy401
        clear hy401
        have H' := Aside0.mk H
        clear H
        obtain ⟨Ao15, co15, eo15⟩ := Kd.S_slice HO_7.out
        subst eo15
        go_wp2_with (first | ((with_reducible refine gate_builtin (b := .append) (xs := #[.tmp 25, .tmp 27]) rfl ?_); at_builtin; refine Kd.R_append (Kd.slice 22 (Kd.slice 3 (Kd.int .i64))) (w0 := w) w.heap.size rfl (.tmp 25) (.tmp 27) 56 55 (.slice none 0 0) 24 rfl Try.underlying56 info55 rfl (by decide) (by omega) u5 x5_1 x7_2 [.slice Ao15 x7_2.length co15] (fun _ => True) (fun k_ => ((fun _ => True)) k_ ∧ some k_ ≠ (u5 : Value).ownBlock) rfl rfl ?aP (fun _ hk => hk) ?aF ?aO ?aB ?aS ?aL ?_; (case aP => exact Kd.M_row (Kd.R_mono (Kd.R_apart' ((Kd.S_R HO_7.out)) (Kd.R_typed HO_5.out) (by decide)) (fun k_ hk => ⟨trivial, hk.2⟩))); (case aB => exact (by repeat (first | (with_reducible first | exact HB.out | apply below_alloc | apply pw_below_drewN | apply below_drew1) | exact HB.out))); (case aF => exact (fun _ _ => trivial)); (case aO => exact (by (with_reducible repeat (first | apply Kd.R_alloc | apply Kd.R_drewN | apply Kd.R_drew)); exact Kd.R_mono HO_5.out (fun _ hk => trivial))); (case aS => exact (below_size (by repeat (first | (with_reducible first | exact HB.out | apply below_alloc | apply pw_below_drewN | apply below_drew1) | exact HB.out)))); (case aL => have := LMc13.out; omega); intro v402 w14 ho hb hg hat; rw [← Ny401.out] at ho; have n0_ := Aside0.mk (hb); have n1_ := Aside0.mk (ho); clear HB; clear HO_5; clear HO_7; have HB := n0_; have HO403 := n1_; clear n0_ n1_; clear ho hb hg hat))
        go_roundg k2
        case measure => have := HK1.out; have := HK2.out; omega
        case rel => exact ⟨(y401), (wrap64 (x6_1 + 1)), (by first | rfl | (simp; done) | (simp [*]; done)), H', ⟨by have := HK1.out; have := HK2.out; omega⟩, ⟨by (with_reducible repeat (first | apply Kd.R_alloc | apply Kd.R_drewN | apply Kd.R_drew)); exact HO403.out⟩, ⟨by repeat (first | (with_reducible first | exact HB.out | apply below_alloc | apply pw_below_drewN | apply below_drew1) | exact HB.out)⟩⟩
       ·rw [if_neg c13] at H
        exact absurd H (by simp)
   ·rw [if_neg c3] at H
    have c3b0 : decide (x6_1 ≤ a0) = false := decide_eq_false c3
    clear c3
    obtain rfl := Option.some.inj H
    go_wp2
    go_ret
    exact ⟨_, by first | rfl | (simp [errW_none, errW_some] <;> rfl) | (simp [*, errW_none, errW_some] <;> rfl), by (with_reducible repeat (first | apply Kd.R_alloc | apply Kd.R_drewN | apply Kd.R_drew)); exact HO_5.out, by repeat (first | (with_reducible first | exact HB.out | apply below_alloc | apply pw_below_drewN | apply below_drew1) | exact HB.out)⟩
end Go.Proofs.Ytfopeenjpdaacaa.PC
end
section
set_option linter.unusedVariables false
set_option linter.unusedSimpArgs false
/- The specification's spread, plainly: table by table. -/
namespace Go.Proofs.Ytfopeenjpdaacaa.PC
open Go.RowKit Go.Proofs.YtfopeenjpdaacaaW.PrintWords Go.Proofs.YtfopeenjpdaacaaW.PrintLast
abbrev T3 := List (List (List Int))
def cfOf (l k : Nat) : Int := (pomaderef03_choose.f 20 (l : Int) (k : Int)).getD 0
/-- one sum on: from d on, c sums -/
def dRun (src : List Int) (cf : Int) (a b : Nat) : Nat → Nat → T3 → T3
  | 0, _, G => G
  | c + 1, d, G => dRun src cf a b c (d + 1) (s3 G a b (d + b) (wrap64 (g3 G a b (d + b) + wrap64 (rd src (d : Int) * cf))))
def kRun (T : T3) (m1 l u : Nat) : Nat → Nat → T3 → T3
  | 0, _, G => G
  | c + 1, k, G => kRun T m1 l u c (k + 1) (if u + k = 0 then G else dRun (g2 T l u) (cfOf l k) (l - k) (u + k - 1) (m1 - (u + k - 1)) 0 G)
def uRun (T : T3) (m1 l : Nat) : Nat → Nat → T3 → T3
  | 0, _, G => G
  | c + 1, u, G => uRun T m1 l c (u + 1) (kRun T m1 l u (l + 1) 0 G)
def lRun (T : T3) (n1 m1 : Nat) : Nat → Nat → T3 → T3
  | 0, _, G => G
  | c + 1, l, G => lRun T n1 m1 c (l + 1) (uRun T m1 l (n1 - l) 0 G)
def zero3 (n1 m1 : Nat) : T3 := List.replicate n1 (List.replicate n1 (List.replicate m1 0))
def cRun (n1 m1 : Nat) : Nat → T3 → T3
  | 0, T => T
  | c + 1, T => cRun n1 m1 c (lRun T n1 m1 n1 0 (zero3 n1 m1))
def spreadL (N : Nat) : List Int := g2 (cRun (N + 1) (N * (N - 1) / 2 + 1) N (s3 (zero3 (N + 1) (N * (N - 1) / 2 + 1)) N 0 0 1)) 0 0
theorem zero_sh (n1 m1 : Nat) : Sh (zero3 n1 m1) n1 m1 := by
  refine ⟨by simp [zero3], fun a ha => by simp [zero3, List.getD_eq_getElem?_getD, ha], fun a b ha hb => by simp [g2, zero3, List.getD_eq_getElem?_getD, ha, hb]⟩
theorem empty_val : ∀ N : Nat, N < 11 → pomaderef03_empty.f 400 (N : Int) ((N * (N - 1) / 2 : Nat) : Int) = some (zero3 (N + 1) (N * (N - 1) / 2 + 1)) := by decide +kernel
theorem choose_ok : ∀ l : Nat, l < 11 → ∀ k : Nat, k ≤ l → pomaderef03_choose.f 20 (l : Int) (k : Int) = some (cfOf l k) := by decide +kernel
theorem dRun_sh (src : List Int) (cf : Int) {n1 m1 a b : Nat} (ha : a < n1) (hb : b < n1) : ∀ c d G, Sh G n1 m1 → Sh (dRun src cf a b c d G) n1 m1
  | 0, _, _, h => h
  | c + 1, d, G, h => dRun_sh src cf ha hb c (d + 1) _ (h.set ha hb _ _)
theorem kRun_sh (T : T3) {n1 m1 l u : Nat} (hl : l < n1) : ∀ c k G, u + k + c ≤ n1 + 1 → l < n1 → Sh G n1 m1 → Sh (kRun T m1 l u c k G) n1 m1
  | 0, _, _, _, _, h => h
  | c + 1, k, G, hk, h0, h => by
    simp only [kRun]
    refine kRun_sh T hl c (k + 1) _ (by omega) h0 ?_
    split
    · exact h
    · exact dRun_sh _ _ (by omega) (by omega) _ _ _ h
theorem uRun_sh (T : T3) {n1 m1 l : Nat} (hl : l < n1) : ∀ c u G, u + c + l ≤ n1 → Sh G n1 m1 → Sh (uRun T m1 l c u G) n1 m1
  | 0, _, _, _, h => h
  | c + 1, u, G, hu, h => uRun_sh T hl c (u + 1) _ (by omega) (kRun_sh T hl _ _ _ (by omega) hl h)
theorem lRun_sh (T : T3) {n1 m1 : Nat} : ∀ c l G, l + c ≤ n1 → Sh G n1 m1 → Sh (lRun T n1 m1 c l G) n1 m1
  | 0, _, _, _, h => h
  | c + 1, l, G, hl, h => lRun_sh T c (l + 1) _ (by omega) (uRun_sh T (by omega) _ _ _ (by omega) h)
end Go.Proofs.Ytfopeenjpdaacaa.PC
end
section
set_option linter.unusedVariables false
set_option linter.unusedSimpArgs false
/- The specification's empty table: no two of its rows are one. -/
namespace Go.Proofs.Ytfopeenjpdaacaa.PC
open Go.RowKit Go.Proofs.YtfopeenjpdaacaaW.PrintWords Go.Proofs.YtfopeenjpdaacaaW.PrintLast Go.Proofs.YtfopeenjpdaacaaW.PrintMore
set_option linter.unusedVariables false
set_option linter.unusedSimpArgs false
set_option maxHeartbeats 8000000 in
set_option maxRecDepth 100000 in
theorem empty_apart (k : Nat) (a0 : Int) (a1 : Int) (r : List (List (List Int))) (w : World) (h : pomaderef03_empty.f k a0 a1 = some r) :
    Calls Try.prog 75 #[.int .i64 a0, .int .i64 a1] w fun e w' => ∃ v0_ : Value, e = .returned (v0_) ∧ Tab w' w.heap.size (fun _ => True) v0_ r ∧ Below w.heap.size w w' := by
  have HB := Aside0.mk (Below.refl w.heap.size w)
  have H : (pomaderef03_empty.l0 k a0 a1 ([] : List (List (List Int))) 0) = some r := h
  clear h
  have H' := Aside0.mk H
  clear H
  go_enter Try.func75, Try.ntmps75
  go_wp2
  go_loopg [5, 6] k (fun kq v5 v6 w' => ∃ (x5_1 : List (List (List Int))) (x6_1 : Int), v6 = .int .i64 x6_1 ∧ Aside0 (pomaderef03_empty.l0 kq a0 a1 x5_1 x6_1 = some r) ∧ Aside0 (kq ≤ k) ∧ Aside0 (Tab w' w.heap.size (fun _ => True) v5 x5_1) ∧ Aside0 (Below w.heap.size w w'))
  case atStart => exact ⟨(([] : List (List (List Int)))), (0), (by first | rfl | (simp; done) | (simp [*]; done)), H', ⟨Nat.le_refl _⟩, ⟨Kd.S_nil _ _ _ _ _⟩, ⟨by repeat (first | (with_reducible first | exact HB.out | apply below_alloc | apply pw_below_drewN | apply below_drew1) | exact HB.out)⟩⟩
  case round =>
    clear H'
    obtain ⟨x5_1, x6_1, rfl, HA, HK1, HO_5, HB⟩ := hrel
    cases gk with
    | zero => exact absurd HA.out (by simp [pomaderef03_empty.l0])
    | succ k1 =>
      have H := HA.out
      clear HA
      simp only [pomaderef03_empty.l0] at H
      by_cases c3 : x6_1 ≤ a0
      · rw [if_pos c3] at H
        have c3b0 : decide (x6_1 ≤ a0) = true := decide_eq_true c3
        clear c3
        have H' := Aside0.mk H
        clear H
        go_wp2
        obtain ⟨Hs, hHs⟩ : ∃ Hs, Hs = wr.heap.size := ⟨_, rfl⟩
        have HS1 := Aside0.mk (show w.heap.size ≤ Hs by rw [hHs]; exact HB.out.size)
        have HO5' : Aside0 (Tab wr w.heap.size (fun k_ => k_ < Hs) u5 x5_1) := ⟨Kd.S_mono (Kd.S_bound HO_5.out) (fun k_ hk => by rw [hHs]; exact hk.2.2.1)⟩
        have HS2 := Aside0.mk (show Hs ≤ wr.heap.size by omega)
        clear hHs HO_5
        have HO_5 := HO5'
        clear HO5'
        go_loopg [7, 8] k1 (fun kq v7 v8 w' => ∃ (x7_2 : List (List Int)) (x8_2 : Int), v8 = .int .i64 x8_2 ∧ Aside0 (pomaderef03_empty.l1 kq a0 a1 x5_1 x6_1 x7_2 x8_2 = some r) ∧ Aside0 (kq ≤ k1) ∧ Aside0 (Tab w' w.heap.size (fun k_ => k_ < Hs) u5 x5_1) ∧ Aside0 (Kd.S (Kd.slice 3 (Kd.int .i64)) 22 w' w.heap.size (fun k_ => Hs ≤ k_) v7 x7_2) ∧ Aside0 (Hs ≤ w'.heap.size) ∧ Aside0 (Below w.heap.size w w'))
        case atStart => exact ⟨(([] : List (List Int))), (0), (by first | rfl | (simp; done) | (simp [*]; done)), H', ⟨Nat.le_refl _⟩, ⟨by (with_reducible repeat (first | apply Kd.S_alloc | apply Kd.S_drewN | apply Kd.S_drew)); exact HO_5.out⟩, ⟨Kd.S_nil _ _ _ _ _⟩, ⟨by first | exact HS2.out | (simp; exact HS2.out)⟩, ⟨by repeat (first | (with_reducible first | exact HB.out | apply below_alloc | apply pw_below_drewN | apply below_drew1) | exact HB.out)⟩⟩
        case round =>
          clear H' HS2
          obtain ⟨x7_2, x8_2, rfl, HA, HK2, HO_5, HO_7, HS2, HB⟩ := hrel
          cases gk with
          | zero => exact absurd HA.out (by simp [pomaderef03_empty.l1])
          | succ k2 =>
            have H := HA.out
            clear HA
            simp only [pomaderef03_empty.l1] at H
            by_cases c4 : x8_2 ≤ a0
            · rw [if_pos c4] at H
              have c4b0 : decide (x8_2 ≤ a0) = true := decide_eq_true c4
              clear c4
              obtain ⟨ji5, hji5⟩ : ∃ j_ : Int, (wrap64 (a1 + 1)) = j_ := ⟨_, rfl⟩
              rw [hji5] at H
              have hji5w : (IntKind.i64.wrap (a1 + 1)) = ji5 := (i64_w _).trans hji5
              by_cases c6 : 0 ≤ (ji5)
              · rw [if_pos c6] at H
                have c6b0 := eq_true c6
                have c6b1 : decide (0 ≤ (ji5)) = true := decide_eq_true c6
                clear c6
                by_cases c7 : (ji5 : Int).toNat ≤ 35184372088832
                · rw [if_pos c7] at H
                  have c7b0 := eq_true c7
                  have c7b1 : decide ((ji5 : Int).toNat ≤ 35184372088832) = true := decide_eq_true c7
                  clear c7
                  obtain ⟨y395, hy395⟩ : ∃ y_ : List Int, y_ = (List.replicate (ji5 : Int).toNat 0) := ⟨_, rfl⟩
                  rw [← hy395] at H
                  have Ny395 := Aside0.mk hy395
                  clear hy395
                  by_cases c8 : x7_2.length < 5864062014805
                  · rw [if_pos c8] at H
                    have LMc8 := Aside0.mk c8
                    clear c8
                    obtain ⟨y398, hy398⟩ : ∃ y_ : List (List Int), y_ = (x7_2 ++ [y395]) := ⟨_, rfl⟩
                    rw [← hy398] at H
                    have Ny398 := Aside0.mk hy398
                    clear hy398
                    have H' := Aside0.mk H
                    clear H
                    go_wp2_with (first | ((with_reducible refine gate_dst (N := 22) rfl ?_); refine Kd.R_make (Kd.int .i64) _ 3 rfl (N := 22) rfl 22 _ _ rfl ji5 rfl rfl Try.underlying22 (.int .i64 0) 8 info3 rfl (by decide) (by omega) 0 (ok := fun _ => True) (okp := fun _ => True) rfl (fun _ hk => hk) trivial (of_decide_eq_true (by first | (with_reducible assumption) | assumption)) (Nat.le_trans (Nat.mul_le_mul_right _ (of_decide_eq_true (by first | (with_reducible assumption) | assumption) : ji5.toNat ≤ 35184372088832)) (by omega)) (Below.refl _ _) (Nat.le_refl _) ?_; intro v396 w9 ho10 hb hg_ hnew_; clear hg_ hnew_; (first | rw [← Ny395.out] at ho10 | (simp only [Int.reduceToNat] at ho10; rw [← Ny395.out] at ho10)); have n0_ := Aside0.mk (Kd.S_below HO_5.out hb); have n1_ := Aside0.mk (Kd.S_elder' HO_7.out (Kd.R_base ho10) hb); have n2_ := Aside0.mk (Kd.R_lower (Kd.R_mono (ok' := fun k_ => Hs ≤ k_) (Kd.R_bound ho10) (fun k_ hk => Nat.le_trans HS2.out hk.2.1)) (below_size HB.out)); have n3_ := Aside0.mk (below_step HB.out hb); have n4_ := Aside0.mk (Nat.le_trans HS2.out hb.size); clear HO_5; clear HO_7; clear HB; clear HS2; have HO_5 := n0_; have HO_7 := n1_; have HO397 := n2_; have HB := n3_; have HS2 := n4_; clear n0_ n1_ n2_ n3_ n4_; clear hb ho10; obtain ⟨Ao12, co12, eo12⟩ := Kd.R_slice HO397.out; subst eo12) | ((with_reducible refine gate_builtin (b := .append) (xs := #[.tmp 19, .tmp 23]) rfl ?_); at_builtin; refine Kd.S_append (Kd.slice 3 (Kd.int .i64)) (w0 := w) w.heap.size rfl (.tmp 19) (.tmp 23) 55 22 (.slice none 0 0) 24 rfl Try.underlying55 info22 rfl (by decide) (by omega) u7 x7_2 y395 [.slice Ao12 y395.length co12] (fun k_ => Hs ≤ k_) (fun k_ => some k_ = (.slice Ao12 y395.length co12 : Value).ownBlock) rfl rfl ?aP (fun k_ hk_ => ((Kd.R_mono (ok' := fun k_ => ((fun k_ => Hs ≤ k_)) k_ ∧ some k_ ≠ (u7 : Value).ownBlock) (Kd.R_apart' (HO397.out) (Kd.S_typed HO_7.out) (by decide)) (fun k_ hk => hk))).1 k_ hk_.symm) ?aF ?aO ?aB ?aS ?aL ?_; (case aP => exact Kd.M_row (Kd.R_mono (Kd.R_tight rfl (Kd.R_mono (ok' := fun k_ => ((fun k_ => Hs ≤ k_)) k_ ∧ some k_ ≠ (u7 : Value).ownBlock) (Kd.R_apart' (HO397.out) (Kd.S_typed HO_7.out) (by decide)) (fun k_ hk => hk))) (fun _ h_ => h_))); (case aB => exact HB.out); (case aF => exact (fun k_ hk => Nat.le_trans HS2.out hk)); (case aO => exact Kd.S_mono HO_7.out (fun k_ hk => ⟨hk.1, fun e_ => hk.2 e_⟩)); (case aS => exact (below_size HB.out)); (case aL => have := LMc8.out; omega); intro v399 w11 ho hb hg hat; rw [← Ny398.out] at ho; have n0_ := Aside0.mk (Kd.S_grown HO_5.out hg (fun k_ hk e_ => by have := (Kd.S_R HO_7.out).1 k_ e_.symm; have := this.1; omega)); have n1_ := Aside0.mk (hb); have n2_ := Aside0.mk (ho); have n3_ := Aside0.mk (Nat.le_trans HS2.out hg.size); clear HO_5; clear HB; clear HO_7; clear HO397; clear HS2; have HO_5 := n0_; have HB := n1_; have HO400 := n2_; have HS2 := n3_; clear n0_ n1_ n2_ n3_; clear ho hb hg hat))
                    go_roundg k2
                    case measure => have := HK1.out; have := HK2.out; omega
                    case rel => exact ⟨(y398), (wrap64 (x8_2 + 1)), (by first | rfl | (simp; done) | (simp [*]; done)), H', ⟨by have := HK1.out; have := HK2.out; omega⟩, HO_5, HO400, HS2, HB⟩
                  · rw [if_neg c8] at H
                    exact absurd H (by simp)
                · rw [if_neg c7] at H
                  exact absurd H (by simp)
              · rw [if_neg c6] at H
                exact absurd H (by simp)
            · rw [if_neg c4] at H
              have c4b0 : decide (x8_2 ≤ a0) = false := decide_eq_false c4
              clear c4
              by_cases c13 : x5_1.length < 5864062014805
              · rw [if_pos c13] at H
                have LMc13 := Aside0.mk c13
                clear c13
                obtain ⟨y401, hy401⟩ : ∃ y_ : List (List (List Int)), y_ = (x5_1 ++ [x7_2]) := ⟨_, rfl⟩
                rw [← hy401] at H
                have Ny401 := Aside0.mk hy401
                clear hy401
                have H' := Aside0.mk H
                clear H
                obtain ⟨Ao15, co15, eo15⟩ := Kd.S_slice HO_7.out
                subst eo15
                go_wp2_with (first | ((with_reducible refine gate_builtin (b := .append) (xs := #[.tmp 25, .tmp 27]) rfl ?_); at_builtin; refine Kd.S_append (slS 22 (Kd.slice 3 (Kd.int .i64))) (w0 := w) w.heap.size rfl (.tmp 25) (.tmp 27) 56 55 (.slice none 0 0) 24 rfl Try.underlying56 info55 rfl (by decide) (by omega) u5 x5_1 x7_2 [.slice Ao15 x7_2.length co15] (fun _ => True) (fun k_ => Hs ≤ k_) rfl rfl ?aP (fun k_ hk => ⟨trivial, fun e_ => by have := (Kd.S_R HO_5.out).1 k_ e_.symm; omega⟩) ?aF ?aO ?aB ?aS ?aL ?_; (case aP => exact ⟨_, rfl, HO_7.out⟩); (case aB => exact HB.out); (case aF => exact (fun _ _ => trivial)); (case aO => exact Kd.S_mono HO_5.out (fun k_ hk => ⟨trivial, by omega⟩)); (case aS => exact (below_size HB.out)); (case aL => have := LMc13.out; omega); intro v402 w14 ho hb hg hat; rw [← Ny401.out] at ho; have n0_ := Aside0.mk (hb); have n1_ := Aside0.mk (ho); clear HB; clear HO_5; clear HO_7; have HB := n0_; have HO403 := n1_; clear n0_ n1_; clear ho hb hg hat))
                go_roundg k2
                case measure => have := HK1.out; have := HK2.out; omega
                case rel => exact ⟨(y401), (wrap64 (x6_1 + 1)), (by first | rfl | (simp; done) | (simp [*]; done)), H', ⟨by have := HK1.out; have := HK2.out; omega⟩, HO403, HB⟩
              · rw [if_neg c13] at H
                exact absurd H (by simp)
      · rw [if_neg c3] at H
        have c3b0 : decide (x6_1 ≤ a0) = false := decide_eq_false c3
        clear c3
        obtain rfl := Option.some.inj H
        go_wp2
        go_ret
        exact ⟨_, by first | rfl | (simp [errW_none, errW_some] <;> rfl) | (simp [*, errW_none, errW_some] <;> rfl), HO_5.out, HB.out⟩
end Go.Proofs.Ytfopeenjpdaacaa.PC
end
section
set_option linter.unusedVariables false
set_option linter.unusedSimpArgs false
/- The specification's spread: its innermost loop. -/
namespace Go.Proofs.Ytfopeenjpdaacaa.PC
open Go.RowKit Go.Proofs.YtfopeenjpdaacaaW.PrintWords Go.Proofs.YtfopeenjpdaacaaW.PrintLast Go.Proofs.YtfopeenjpdaacaaW.PrintMore
set_option linter.unusedVariables false
set_option linter.unusedSimpArgs false
def rsp_T : Bool × List (List Nat × List Nat) := (true, [([], []), ([], []), ([], []), ([1, 2], [1, 2]), ([0, 3], [0, 3]), ([4], [4]), ([], []), ([6], [6]), ([5, 7], [5, 7]), ([8], [8]), ([], []), ([], []), ([10, 11], [10, 11]), ([12], [12]), ([9, 13], [9, 13]), ([14], [14]), ([], []), ([], []), ([16, 17], [16, 17]), ([18], [18]), ([], []), ([19, 20], [19, 20]), ([21], [21]), ([], []), ([22, 23], [22, 23]), ([24], [24]), ([], []), ([], []), ([26, 27], [26, 27]), ([25, 28], [25, 28]), ([15, 29], [15, 29]), ([9, 13, 0, 1, 2, 3, 4, 5, 6, 7, 8, 9, 10, 11, 12, 13, 14, 15, 16, 17, 18, 19, 20, 21, 22, 23, 24, 25, 26, 27, 28, 29, 30], [9, 13]), ([31, 30, 28, 0, 1, 2, 3, 4, 5, 6, 7, 8, 9, 10, 11, 12, 13, 14, 15, 16, 17, 18, 19, 20, 21, 22, 23, 24, 25, 26, 27, 28, 29, 30], [30, 31])])
def rsp_B : List Nat := [0, 0, 0, 6, 15, 31, 0, 64, 255, 511, 0, 0, 3072, 7168, 16383, 32767, 0, 0, 196608, 458752, 0, 2031616, 4128768, 0, 16711680, 33488896, 0, 0, 201326592, 536805376, 1073741823, 2147483647, 4294967295]
theorem rsp_tab : rtab .any (opsOf Try.f58 22) = rsp_T := by kernel_rfl
theorem rsp_bits : waitsOk rsp_T.2 rsp_B = true := by kernel_rfl
theorem wA {a b c : Nat} (h : c = a + b) (hc : c ≤ 1000000) : wrap64 ((a : Int) + (b : Int)) = (c : Int) := by unfold wrap64; omega
theorem wS {a b c : Nat} (h : c + b = a) (ha : a ≤ 1000000) : wrap64 ((a : Int) - (b : Int)) = (c : Int) := by unfold wrap64; omega
theorem wS1 {a c : Nat} (h : c + 1 = a) (ha : a ≤ 1000000) : wrap64 ((a : Int) - 1) = (c : Int) := by unfold wrap64; omega
theorem wI {a : Nat} (h : a ≤ 1000000) : wrap64 ((a : Int) + 1) = ((a + 1 : Nat) : Int) := by unfold wrap64; omega
theorem most_val : ∀ N : Nat, N < 11 → wrap64 (Int.tdiv (wrap64 ((N : Int) * wrap64 ((N : Int) - 1))) 2) = ((N * (N - 1) / 2 : Nat) : Int) := by decide +kernel
theorem mstepA {m a : Nat} (h : a < m) (hm : m ≤ 1000) : m - (intOf (Value.int .i64 (wrap64 ((a : Int) + 1)))).toNat < m - (intOf (Value.int .i64 (a : Int))).toNat := by
  rw [wI (by omega)]; simp only [intOf]; omega
theorem mstepB {m a : Nat} (h : a < m) (hm : m ≤ 1000) : m - (intOf (Value.int .i64 (IntKind.i64.wrap ((a : Int) + 1)))).toNat < m - (intOf (Value.int .i64 (a : Int))).toNat := by
  rw [i64_w, wI (by omega)]; simp only [intOf]; omega
theorem d_lt {d b db m1 : Nat} (h : db < m1 ∧ db = d + b) : d < m1 := by omega
theorem m_le {n1 m1 N M : Nat} (h : n1 = N + 1 ∧ m1 = M + 1 ∧ 1 ≤ N ∧ N ≤ 10 ∧ M ≤ 45) : m1 ≤ 1000 := by omega
theorem k_b {k l n1 m1 N M : Nat} (h1 : k ≤ l) (h2 : l < n1) (h3 : n1 = N + 1 ∧ m1 = M + 1 ∧ 1 ≤ N ∧ N ≤ 10 ∧ M ≤ 45) : k ≤ 1000000 := by omega
theorem l_m {l n1 m1 N M : Nat} (h2 : l < n1) (h3 : n1 = N + 1 ∧ m1 = M + 1 ∧ 1 ≤ N ∧ N ≤ 10 ∧ M ≤ 45) : l + 1 ≤ 1000 := by omega
theorem u_lt {u l n1 : Nat} (h : u + l < n1) : u < n1 := by omega
theorem n_m {n1 m1 N M : Nat} (h3 : n1 = N + 1 ∧ m1 = M + 1 ∧ 1 ≤ N ∧ N ≤ 10 ∧ M ≤ 45) : n1 ≤ 1000 := by omega
theorem u_b {u n1 m1 N M : Nat} (h2 : u < n1) (h3 : n1 = N + 1 ∧ m1 = M + 1 ∧ 1 ≤ N ∧ N ≤ 10 ∧ M ≤ 45) : u ≤ 1000000 := by omega
theorem j_b {j n1 m1 N M : Nat} (h2 : j < N) (h3 : n1 = N + 1 ∧ m1 = M + 1 ∧ 1 ≤ N ∧ N ≤ 10 ∧ M ≤ 45) : j ≤ 1000000 ∧ N ≤ 1000 := by omega
/-- The loops of a text, each ahead of those in it. -/
def loopsOf : Code → List Code
  | .loop c => c :: loopsOf c
  | .seq a b => loopsOf a ++ loopsOf b
  | .block _ c => loopsOf c
  | .cond _ a b => loopsOf a ++ loopsOf b
  | _ => []
noncomputable def rspLoop (k : Nat) : Code := ((Try.f58.body.map loopsOf).getD []).getD k .skip
set_option maxHeartbeats 16000000 in
set_option maxRecDepth 100000 in
theorem rsp_dloop {N M n1 m1 l u k tt a b : Nat} {cf : Int} {gT cT gN cN H : Nat} {T G G4 : T3} {w wr : World}
    (HN : Aside0 (n1 = N + 1 ∧ m1 = M + 1 ∧ 1 ≤ N ∧ N ≤ 10 ∧ M ≤ 45)) (HLN : Aside0 (l < n1)) (HUN : Aside0 (u + l < n1)) (HBD : Aside0 (a < n1 ∧ b < n1 ∧ a + k = l ∧ b + 1 = u + k ∧ tt = b + 1)) (HKL : Aside0 (k ≤ l)) (HCF : Aside0 (pomaderef03_choose.f 20 (l : Int) (k : Int) = some cf))
    (HS : Aside0 (St3 w H gT cT gN cN n1 m1 T G wr)) (HG4 : Aside0 (dRun (g2 T l u) cf a b (m1 - b) 0 G = G4))
    {s1 s2 s5 s11 s12 s13 s14 s15 s16 s17 s18 s19 s20 s21 s22 s23 s24 s25 s26 s27 s28 s29 s30 s31 s32 s33 s34 s35 s36 s37 s38 s39 s40 s41 s42 s43 s44 s45 s46 s47 s48 s49 s50 s51 s52 s53 s54 s55 s56 s57 s58 s59 s60 s61 s62 s63 s64 s65 s66 s67 s68 s69 s70 s71 s72 s73 s74 s75 s76 s77 s78 s79 s80 s81 s82 s83 s84 s85 s86 s87 s88 s89 s90 s91 s92 s93 s94 s95 s96 s97 s98 s99 s100 s101 s102 : Value} {Q0 : Exit → Act → World → Prop}
    (HPn : Aside0 (∀ (p_ : List PanicEntry) (a_ : Act) (d_ : Option Tmp) (v_ : Value) (w_ : World), Q0 (.panic p_) (a_.put d_ v_) w_ → Q0 (.panic p_) a_ w_)) (HX : Aside0 (∀ (v11 v57 v58 v59 v60 v61 v62 v63 v64 v65 v66 v67 v68 v69 v70 v71 v72 v73 v74 v75 v76 v77 v78 v79 v80 v81 v82 v83 v84 v85 v86 v87 v88 v89 v90 v91 v92 v93 v94 v95 v96 : Value) (w2 : World), Aside0 (St3 w H gT cT gN cN n1 m1 T G4 w2) → Q0 (.exit 8) ⟨List.toArray ((.int .i64 (N : Int)) :: s1 :: s2 :: (.int .i64 (M : Int)) :: (.slice (some ⟨gT, 0, none⟩) n1 cT) :: s5 :: (.slice (some ⟨gN, 0, none⟩) n1 cN) :: (.int .i64 (l : Int)) :: (.int .i64 (u : Int)) :: (.int .i64 (k : Int)) :: (.int .i64 (tt : Int)) :: v11 :: s12 :: s13 :: s14 :: s15 :: s16 :: s17 :: s18 :: s19 :: s20 :: s21 :: s22 :: s23 :: s24 :: s25 :: s26 :: s27 :: s28 :: s29 :: s30 :: s31 :: s32 :: s33 :: s34 :: s35 :: s36 :: s37 :: s38 :: s39 :: s40 :: s41 :: s42 :: s43 :: s44 :: s45 :: s46 :: s47 :: s48 :: s49 :: s50 :: s51 :: s52 :: s53 :: s54 :: s55 :: s56 :: v57 :: v58 :: v59 :: v60 :: v61 :: v62 :: v63 :: v64 :: v65 :: v66 :: v67 :: v68 :: v69 :: v70 :: v71 :: v72 :: v73 :: v74 :: v75 :: v76 :: v77 :: v78 :: v79 :: v80 :: v81 :: v82 :: v83 :: v84 :: v85 :: v86 :: v87 :: v88 :: v89 :: v90 :: v91 :: v92 :: v93 :: v94 :: v95 :: v96 :: s97 :: s98 :: s99 :: s100 :: s101 :: s102 :: []), []⟩ w2)) (h11 : s11 = .int .i64 ((0 : Nat) : Int)) :
    Code.wp Try.prog (Code.loop (rspLoop 4)) Q0 ⟨List.toArray ((.int .i64 (N : Int)) :: s1 :: s2 :: (.int .i64 (M : Int)) :: (.slice (some ⟨gT, 0, none⟩) n1 cT) :: s5 :: (.slice (some ⟨gN, 0, none⟩) n1 cN) :: (.int .i64 (l : Int)) :: (.int .i64 (u : Int)) :: (.int .i64 (k : Int)) :: (.int .i64 (tt : Int)) :: s11 :: s12 :: s13 :: s14 :: s15 :: s16 :: s17 :: s18 :: s19 :: s20 :: s21 :: s22 :: s23 :: s24 :: s25 :: s26 :: s27 :: s28 :: s29 :: s30 :: s31 :: s32 :: s33 :: s34 :: s35 :: s36 :: s37 :: s38 :: s39 :: s40 :: s41 :: s42 :: s43 :: s44 :: s45 :: s46 :: s47 :: s48 :: s49 :: s50 :: s51 :: s52 :: s53 :: s54 :: s55 :: s56 :: s57 :: s58 :: s59 :: s60 :: s61 :: s62 :: s63 :: s64 :: s65 :: s66 :: s67 :: s68 :: s69 :: s70 :: s71 :: s72 :: s73 :: s74 :: s75 :: s76 :: s77 :: s78 :: s79 :: s80 :: s81 :: s82 :: s83 :: s84 :: s85 :: s86 :: s87 :: s88 :: s89 :: s90 :: s91 :: s92 :: s93 :: s94 :: s95 :: s96 :: s97 :: s98 :: s99 :: s100 :: s101 :: s102 :: []), []⟩ wr := by
  subst h11
  conv => arg 2; arg 1; whnf
  go_loopw [11] (fun v11 wr => ∃ (d : Nat) (G : T3), d ≤ m1 - b ∧ v11 = .int .i64 (d : Int) ∧ Aside0 (St3 w H gT cT gN cN n1 m1 T G wr) ∧ Aside0 (dRun (g2 T l u) cf a b (m1 - b - d) d G = G4)) (fun v11 _ => m1 - (intOf v11).toNat)
  case atStart => exact ⟨0, _, by omega, rfl, HS, HG4⟩
  case round => as_aux_lemma =>
    clear HS HG4
    obtain ⟨d, G, hd, rfl, HS, HD⟩ := hrel
    obtain ⟨x1, hx1⟩ : ∃ x1, x1 = d + tt := ⟨_, rfl⟩
    obtain ⟨db, hdb⟩ : ∃ db, db = d + b := ⟨_, rfl⟩
    by_cases hdm : db < m1
    · have d5 : decide ((db : Int) ≤ (M : Int)) = true := decide_eq_true (by have := HN.out; omega)
      have d5n : (db ≤ M) = True := eq_true (by have := HN.out; omega)
      have hb0 := HBD.out
      have hl0 := HLN.out
      have hu0 := HUN.out
      obtain ⟨ga, ca, gb, cb, ta, ea, tb, eb, y1, y2, y3, y4, y5, y6, y7, y8, y9⟩ := HS.out.cells (a := a) (b := b) (d := db) (l := l) (u := u) (e := d) (by omega) (by omega) (by omega) (by omega) (by omega) (by omega)
      obtain ⟨gv, hgv⟩ : ∃ gv, g3 G a b db = gv := ⟨_, rfl⟩
      obtain ⟨tv, htv⟩ : ∃ tv, g3 T l u d = tv := ⟨_, rfl⟩
      rw [hgv] at y3
      rw [htv] at y6
      have b1 : (a < n1) = True := eq_true (by omega)
      have b2 : (b < n1) = True := eq_true (by omega)
      have b3 : (db < m1) = True := eq_true (by omega)
      have b4 : (l < n1) = True := eq_true (by omega)
      have b5 : (u < n1) = True := eq_true (by omega)
      have b6 : (d < m1) = True := eq_true (by omega)
      have hD2 : dRun (g2 T l u) cf a b (m1 - b - (d + 1)) (d + 1) (s3 G a b db (wrap64 (gv + wrap64 (tv * cf)))) = G4 := by
        have h := HD.out
        rw [show m1 - b - d = (m1 - b - (d + 1)) + 1 by omega] at h
        simp only [dRun] at h
        rw [← hdb, hgv, show rd (g2 T l u) (d : Int) = tv from htv] at h
        exact h
      have HD2 := Aside0.mk hD2
      have HDM := Aside0.mk (show db < m1 ∧ db = d + b from ⟨hdm, hdb⟩)
      obtain ⟨w3, w3', w4, w4', w5, w5', w6, w6'⟩ : wrap64 ((l : Int) - (k : Int)) = (a : Int) ∧ IntKind.i64.wrap ((l : Int) - (k : Int)) = (a : Int) ∧ wrap64 ((d : Int) + (tt : Int)) = (x1 : Int) ∧ IntKind.i64.wrap ((d : Int) + (tt : Int)) = (x1 : Int) ∧ wrap64 ((x1 : Int) - 1) = (db : Int) ∧ IntKind.i64.wrap ((x1 : Int) - 1) = (db : Int) ∧ wrap64 ((tt : Int) - 1) = (b : Int) ∧ IntKind.i64.wrap ((tt : Int) - 1) = (b : Int) := by
        have q1 := HN.out; have q2 := HBD.out; have q3 := HLN.out; have q4 := HUN.out
        exact ⟨wS (by omega) (by omega), (i64_w _).trans (wS (by omega) (by omega)), wA hx1 (by omega), (i64_w _).trans (wA hx1 (by omega)), wS1 (by omega) (by omega), (i64_w _).trans (wS1 (by omega) (by omega)), wS1 (by omega) (by omega), (i64_w _).trans (wS1 (by omega) (by omega))⟩
      clear hD2 HD hgv htv hb0 hl0 hu0 hd hdm hdb hx1
      go_wp2
      replace y1 : wr.drew.cell? ⟨gN, a, none⟩ = _ := y1
      replace y2 : wr.drew.cell? ⟨ga, b, none⟩ = _ := y2
      replace y7 : wr.drew.frozen? ⟨gb, db, none⟩ = false := y7
      replace HS := Aside0.mk HS.out.drew
      refine start_ (n := 33) (S := fun w' => w'.cell? ⟨gN, a, none⟩ = some (.slice (some ⟨ga, 0, none⟩) n1 ca) ∧ w'.cell? ⟨ga, b, none⟩ = some (.slice (some ⟨gb, 0, none⟩) m1 cb) ∧ w'.cell? ⟨gb, db, none⟩ = some (.int .i64 gv) ∧ w'.cell? ⟨gT, l, none⟩ = some (.slice (some ⟨ta, 0, none⟩) n1 ea) ∧ w'.cell? ⟨ta, u, none⟩ = some (.slice (some ⟨tb, 0, none⟩) m1 eb) ∧ w'.cell? ⟨tb, d, none⟩ = some (.int .i64 tv)) (ds := [32]) #[false, false, false, false, false, false, false, false, false, false, false, false, false, false, false, false, false, false, false, false, false, false, false, false, false, false, false, false, false, false, false, false, false] (by kernel_rfl) rfl rfl ⟨y1, y2, y3, y4, y5, y6⟩ (fun hHeld => ?_); refine with_tabW rsp_tab rsp_bits (fun HT_ HW_ => ?_)
      generalize wr.drew = wd at y1 y2 y3 y4 y5 y6 y7 HS hHeld ⊢
      refine pure_ (i := 0) (N := some 65) (v := ?_) (a' := ?_) #[true, false, false, false, false, false, false, false, false, false, false, false, false, false, false, false, false, false, false, false, false, false, false, false, false, false, false, false, false, false, false, false, false] rfl rfl (any_of HT_.out (by kernel_rfl)) (fun _ _ _ h => HPn.out _ _ _ _ _ h) (Or.inl ⟨by rfl, ?_⟩) ?_ ?_
      rotate_left
      · intro w'
        go_simp
        with_reducible rfl
      rotate_left
      · simp only [Act.put, List.setIfInBounds_toArray, List.set_cons_zero, List.set_cons_succ, i64_w, i32_w]
        rfl
      refine pure_ (i := 1) (N := some 66) (v := ?_) (a' := ?_) #[true, true, false, false, false, false, false, false, false, false, false, false, false, false, false, false, false, false, false, false, false, false, false, false, false, false, false, false, false, false, false, false, false] rfl rfl (any_of HT_.out (by kernel_rfl)) (fun _ _ _ h => HPn.out _ _ _ _ _ h) (Or.inl ⟨by rfl, ?_⟩) ?_ ?_
      rotate_left
      · intro w'
        go_simp
        with_reducible rfl
      rotate_left
      · simp only [Act.put, List.setIfInBounds_toArray, List.set_cons_zero, List.set_cons_succ, i64_w, i32_w]
        rfl
      refine pure_ (i := 2) (N := some 67) (v := ?_) (a' := ?_) #[true, true, true, false, false, false, false, false, false, false, false, false, false, false, false, false, false, false, false, false, false, false, false, false, false, false, false, false, false, false, false, false, false] rfl rfl (any_of HT_.out (by kernel_rfl)) (fun _ _ _ h => HPn.out _ _ _ _ _ h) (Or.inl ⟨by rfl, ?_⟩) ?_ ?_
      rotate_left
      · intro w'
        go_simp
        with_reducible rfl
      rotate_left
      · simp only [Act.put, List.setIfInBounds_toArray, List.set_cons_zero, List.set_cons_succ, i64_w, i32_w]
        rfl
      as_aux_lemma =>
      refine pure_ (i := 3) (N := some 68) (v := ?_) (a' := ?_) #[true, true, true, true, false, false, false, false, false, false, false, false, false, false, false, false, false, false, false, false, false, false, false, false, false, false, false, false, false, false, false, false, false] rfl rfl (any_of HT_.out (by kernel_rfl)) (fun _ _ _ h => HPn.out _ _ _ _ _ h) (Or.inl ⟨by rfl, ?_⟩) ?_ ?_
      rotate_left
      · intro w'
        go_simp
        with_reducible rfl
      rotate_left
      · simp only [Act.put, List.setIfInBounds_toArray, List.set_cons_zero, List.set_cons_succ, i64_w, i32_w]
        rfl
      refine pure_ (i := 4) (N := some 69) (v := ?_) (a' := ?_) #[true, true, true, true, true, false, false, false, false, false, false, false, false, false, false, false, false, false, false, false, false, false, false, false, false, false, false, false, false, false, false, false, false] rfl rfl (any_of HT_.out (by kernel_rfl)) (fun _ _ _ h => HPn.out _ _ _ _ _ h) (Or.inl ⟨by rfl, ?_⟩) ?_ ?_
      rotate_left
      · intro w'
        go_simp
        with_reducible rfl
      rotate_left
      · simp only [Act.put, List.setIfInBounds_toArray, List.set_cons_zero, List.set_cons_succ, i64_w, i32_w]
        rfl
      refine take_ (i := 5) (N := some 70) (v := ?_) (a' := ?_) #[true, true, true, true, true, true, false, false, false, false, false, false, false, false, false, false, false, false, false, false, false, false, false, false, false, false, false, false, false, false, false, false, false] rfl rfl (take_ofW HT_.out HW_.out (by kernel_rfl)) (fun _ _ _ h => HPn.out _ _ _ _ _ h) (Or.inl ⟨by rfl, ?_⟩) hHeld ?_ ?_
      rotate_left
      · rintro w' ⟨s1, s2, s3, s4, s5, s6⟩
        go_simp
        with_reducible rfl
      rotate_left
      · simp only [Act.put, List.setIfInBounds_toArray, List.set_cons_zero, List.set_cons_succ, i64_w, i32_w]
        rfl
      as_aux_lemma =>
      refine pure_ (i := 6) (N := some 71) (v := ?_) (a' := ?_) #[true, true, true, true, true, true, true, false, false, false, false, false, false, false, false, false, false, false, false, false, false, false, false, false, false, false, false, false, false, false, false, false, false] rfl rfl (any_of HT_.out (by kernel_rfl)) (fun _ _ _ h => HPn.out _ _ _ _ _ h) (Or.inl ⟨by rfl, ?_⟩) ?_ ?_
      rotate_left
      · intro w'
        go_simp
        with_reducible rfl
      rotate_left
      · simp only [Act.put, List.setIfInBounds_toArray, List.set_cons_zero, List.set_cons_succ, i64_w, i32_w]
        rfl
      refine pure_ (i := 7) (N := some 72) (v := ?_) (a' := ?_) #[true, true, true, true, true, true, true, true, false, false, false, false, false, false, false, false, false, false, false, false, false, false, false, false, false, false, false, false, false, false, false, false, false] rfl rfl (any_of HT_.out (by kernel_rfl)) (fun _ _ _ h => HPn.out _ _ _ _ _ h) (Or.inl ⟨by rfl, ?_⟩) ?_ ?_
      rotate_left
      · intro w'
        go_simp
        with_reducible rfl
      rotate_left
      · simp only [Act.put, List.setIfInBounds_toArray, List.set_cons_zero, List.set_cons_succ, i64_w, i32_w]
        rfl
      refine pure_ (i := 8) (N := some 73) (v := ?_) (a' := ?_) #[true, true, true, true, true, true, true, true, true, false, false, false, false, false, false, false, false, false, false, false, false, false, false, false, false, false, false, false, false, false, false, false, false] rfl rfl (any_of HT_.out (by kernel_rfl)) (fun _ _ _ h => HPn.out _ _ _ _ _ h) (Or.inl ⟨by rfl, ?_⟩) ?_ ?_
      rotate_left
      · intro w'
        go_simp
        with_reducible rfl
      rotate_left
      · simp only [Act.put, List.setIfInBounds_toArray, List.set_cons_zero, List.set_cons_succ, i64_w, i32_w]
        rfl
      as_aux_lemma =>
      refine take_ (i := 9) (N := some 74) (v := ?_) (a' := ?_) #[true, true, true, true, true, true, true, true, true, true, false, false, false, false, false, false, false, false, false, false, false, false, false, false, false, false, false, false, false, false, false, false, false] rfl rfl (take_ofW HT_.out HW_.out (by kernel_rfl)) (fun _ _ _ h => HPn.out _ _ _ _ _ h) (Or.inl ⟨by rfl, ?_⟩) hHeld ?_ ?_
      rotate_left
      · rintro w' ⟨s1, s2, s3, s4, s5, s6⟩
        go_simp
        with_reducible rfl
      rotate_left
      · simp only [Act.put, List.setIfInBounds_toArray, List.set_cons_zero, List.set_cons_succ, i64_w, i32_w]
        rfl
      refine pure_ (i := 10) (N := some 75) (v := ?_) (a' := ?_) #[true, true, true, true, true, true, true, true, true, true, true, false, false, false, false, false, false, false, false, false, false, false, false, false, false, false, false, false, false, false, false, false, false] rfl rfl (any_of HT_.out (by kernel_rfl)) (fun _ _ _ h => HPn.out _ _ _ _ _ h) (Or.inl ⟨by rfl, ?_⟩) ?_ ?_
      rotate_left
      · intro w'
        go_simp
        with_reducible rfl
      rotate_left
      · simp only [Act.put, List.setIfInBounds_toArray, List.set_cons_zero, List.set_cons_succ, i64_w, i32_w]
        rfl
      refine pure_ (i := 11) (N := some 76) (v := ?_) (a' := ?_) #[true, true, true, true, true, true, true, true, true, true, true, true, false, false, false, false, false, false, false, false, false, false, false, false, false, false, false, false, false, false, false, false, false] rfl rfl (any_of HT_.out (by kernel_rfl)) (fun _ _ _ h => HPn.out _ _ _ _ _ h) (Or.inl ⟨by rfl, ?_⟩) ?_ ?_
      rotate_left
      · intro w'
        go_simp
        with_reducible rfl
      rotate_left
      · simp only [Act.put, List.setIfInBounds_toArray, List.set_cons_zero, List.set_cons_succ, i64_w, i32_w]
        rfl
      as_aux_lemma =>
      refine pure_ (i := 12) (N := some 77) (v := ?_) (a' := ?_) #[true, true, true, true, true, true, true, true, true, true, true, true, true, false, false, false, false, false, false, false, false, false, false, false, false, false, false, false, false, false, false, false, false] rfl rfl (any_of HT_.out (by kernel_rfl)) (fun _ _ _ h => HPn.out _ _ _ _ _ h) (Or.inl ⟨by rfl, ?_⟩) ?_ ?_
      rotate_left
      · intro w'
        go_simp
        with_reducible rfl
      rotate_left
      · simp only [Act.put, List.setIfInBounds_toArray, List.set_cons_zero, List.set_cons_succ, i64_w, i32_w]
        rfl
      refine pure_ (i := 13) (N := some 78) (v := ?_) (a' := ?_) #[true, true, true, true, true, true, true, true, true, true, true, true, true, true, false, false, false, false, false, false, false, false, false, false, false, false, false, false, false, false, false, false, false] rfl rfl (any_of HT_.out (by kernel_rfl)) (fun _ _ _ h => HPn.out _ _ _ _ _ h) (Or.inl ⟨by rfl, ?_⟩) ?_ ?_
      rotate_left
      · intro w'
        go_simp
        with_reducible rfl
      rotate_left
      · simp only [Act.put, List.setIfInBounds_toArray, List.set_cons_zero, List.set_cons_succ, i64_w, i32_w]
        rfl
      refine pure_ (i := 14) (N := some 79) (v := ?_) (a' := ?_) #[true, true, true, true, true, true, true, true, true, true, true, true, true, true, true, false, false, false, false, false, false, false, false, false, false, false, false, false, false, false, false, false, false] rfl rfl (any_of HT_.out (by kernel_rfl)) (fun _ _ _ h => HPn.out _ _ _ _ _ h) (Or.inl ⟨by rfl, ?_⟩) ?_ ?_
      rotate_left
      · intro w'
        go_simp
        with_reducible rfl
      rotate_left
      · simp only [Act.put, List.setIfInBounds_toArray, List.set_cons_zero, List.set_cons_succ, i64_w, i32_w]
        rfl
      as_aux_lemma =>
      refine take_ (i := 15) (N := some 80) (v := ?_) (a' := ?_) #[true, true, true, true, true, true, true, true, true, true, true, true, true, true, true, true, false, false, false, false, false, false, false, false, false, false, false, false, false, false, false, false, false] rfl rfl (take_ofW HT_.out HW_.out (by kernel_rfl)) (fun _ _ _ h => HPn.out _ _ _ _ _ h) (Or.inl ⟨by rfl, ?_⟩) hHeld ?_ ?_
      rotate_left
      · rintro w' ⟨s1, s2, s3, s4, s5, s6⟩
        go_simp
        with_reducible rfl
      rotate_left
      · simp only [Act.put, List.setIfInBounds_toArray, List.set_cons_zero, List.set_cons_succ, i64_w, i32_w]
        rfl
      refine pure_ (i := 16) (N := some 81) (v := ?_) (a' := ?_) #[true, true, true, true, true, true, true, true, true, true, true, true, true, true, true, true, true, false, false, false, false, false, false, false, false, false, false, false, false, false, false, false, false] rfl rfl (any_of HT_.out (by kernel_rfl)) (fun _ _ _ h => HPn.out _ _ _ _ _ h) (Or.inl ⟨by rfl, ?_⟩) ?_ ?_
      rotate_left
      · intro w'
        go_simp
        with_reducible rfl
      rotate_left
      · simp only [Act.put, List.setIfInBounds_toArray, List.set_cons_zero, List.set_cons_succ, i64_w, i32_w]
        rfl
      refine pure_ (i := 17) (N := some 82) (v := ?_) (a' := ?_) #[true, true, true, true, true, true, true, true, true, true, true, true, true, true, true, true, true, true, false, false, false, false, false, false, false, false, false, false, false, false, false, false, false] rfl rfl (any_of HT_.out (by kernel_rfl)) (fun _ _ _ h => HPn.out _ _ _ _ _ h) (Or.inl ⟨by rfl, ?_⟩) ?_ ?_
      rotate_left
      · intro w'
        go_simp
        with_reducible rfl
      rotate_left
      · simp only [Act.put, List.setIfInBounds_toArray, List.set_cons_zero, List.set_cons_succ, i64_w, i32_w]
        rfl
      as_aux_lemma =>
      refine pure_ (i := 18) (N := some 83) (v := ?_) (a' := ?_) #[true, true, true, true, true, true, true, true, true, true, true, true, true, true, true, true, true, true, true, false, false, false, false, false, false, false, false, false, false, false, false, false, false] rfl rfl (any_of HT_.out (by kernel_rfl)) (fun _ _ _ h => HPn.out _ _ _ _ _ h) (Or.inl ⟨by rfl, ?_⟩) ?_ ?_
      rotate_left
      · intro w'
        go_simp
        with_reducible rfl
      rotate_left
      · simp only [Act.put, List.setIfInBounds_toArray, List.set_cons_zero, List.set_cons_succ, i64_w, i32_w]
        rfl
      refine take_ (i := 19) (N := some 84) (v := ?_) (a' := ?_) #[true, true, true, true, true, true, true, true, true, true, true, true, true, true, true, true, true, true, true, true, false, false, false, false, false, false, false, false, false, false, false, false, false] rfl rfl (take_ofW HT_.out HW_.out (by kernel_rfl)) (fun _ _ _ h => HPn.out _ _ _ _ _ h) (Or.inl ⟨by rfl, ?_⟩) hHeld ?_ ?_
      rotate_left
      · rintro w' ⟨s1, s2, s3, s4, s5, s6⟩
        go_simp
        with_reducible rfl
      rotate_left
      · simp only [Act.put, List.setIfInBounds_toArray, List.set_cons_zero, List.set_cons_succ, i64_w, i32_w]
        rfl
      refine pure_ (i := 20) (N := some 85) (v := ?_) (a' := ?_) #[true, true, true, true, true, true, true, true, true, true, true, true, true, true, true, true, true, true, true, true, true, false, false, false, false, false, false, false, false, false, false, false, false] rfl rfl (any_of HT_.out (by kernel_rfl)) (fun _ _ _ h => HPn.out _ _ _ _ _ h) (Or.inl ⟨by rfl, ?_⟩) ?_ ?_
      rotate_left
      · intro w'
        go_simp
        with_reducible rfl
      rotate_left
      · simp only [Act.put, List.setIfInBounds_toArray, List.set_cons_zero, List.set_cons_succ, i64_w, i32_w]
        rfl
      as_aux_lemma =>
      refine pure_ (i := 21) (N := some 86) (v := ?_) (a' := ?_) #[true, true, true, true, true, true, true, true, true, true, true, true, true, true, true, true, true, true, true, true, true, true, false, false, false, false, false, false, false, false, false, false, false] rfl rfl (any_of HT_.out (by kernel_rfl)) (fun _ _ _ h => HPn.out _ _ _ _ _ h) (Or.inl ⟨by rfl, ?_⟩) ?_ ?_
      rotate_left
      · intro w'
        go_simp
        with_reducible rfl
      rotate_left
      · simp only [Act.put, List.setIfInBounds_toArray, List.set_cons_zero, List.set_cons_succ, i64_w, i32_w]
        rfl
      refine take_ (i := 22) (N := some 87) (v := ?_) (a' := ?_) #[true, true, true, true, true, true, true, true, true, true, true, true, true, true, true, true, true, true, true, true, true, true, true, false, false, false, false, false, false, false, false, false, false] rfl rfl (take_ofW HT_.out HW_.out (by kernel_rfl)) (fun _ _ _ h => HPn.out _ _ _ _ _ h) (Or.inl ⟨by rfl, ?_⟩) hHeld ?_ ?_
      rotate_left
      · rintro w' ⟨s1, s2, s3, s4, s5, s6⟩
        go_simp
        with_reducible rfl
      rotate_left
      · simp only [Act.put, List.setIfInBounds_toArray, List.set_cons_zero, List.set_cons_succ, i64_w, i32_w]
        rfl
      refine pure_ (i := 23) (N := some 88) (v := ?_) (a' := ?_) #[true, true, true, true, true, true, true, true, true, true, true, true, true, true, true, true, true, true, true, true, true, true, true, true, false, false, false, false, false, false, false, false, false] rfl rfl (any_of HT_.out (by kernel_rfl)) (fun _ _ _ h => HPn.out _ _ _ _ _ h) (Or.inl ⟨by rfl, ?_⟩) ?_ ?_
      rotate_left
      · intro w'
        go_simp
        with_reducible rfl
      rotate_left
      · simp only [Act.put, List.setIfInBounds_toArray, List.set_cons_zero, List.set_cons_succ, i64_w, i32_w]
        rfl
      as_aux_lemma =>
      refine pure_ (i := 24) (N := some 89) (v := ?_) (a' := ?_) #[true, true, true, true, true, true, true, true, true, true, true, true, true, true, true, true, true, true, true, true, true, true, true, true, true, false, false, false, false, false, false, false, false] rfl rfl (any_of HT_.out (by kernel_rfl)) (fun _ _ _ h => HPn.out _ _ _ _ _ h) (Or.inl ⟨by rfl, ?_⟩) ?_ ?_
      rotate_left
      · intro w'
        go_simp
        with_reducible rfl
      rotate_left
      · simp only [Act.put, List.setIfInBounds_toArray, List.set_cons_zero, List.set_cons_succ, i64_w, i32_w]
        rfl
      refine take_ (i := 25) (N := some 90) (v := ?_) (a' := ?_) #[true, true, true, true, true, true, true, true, true, true, true, true, true, true, true, true, true, true, true, true, true, true, true, true, true, true, false, false, false, false, false, false, false] rfl rfl (take_ofW HT_.out HW_.out (by kernel_rfl)) (fun _ _ _ h => HPn.out _ _ _ _ _ h) (Or.inl ⟨by rfl, ?_⟩) hHeld ?_ ?_
      rotate_left
      · rintro w' ⟨s1, s2, s3, s4, s5, s6⟩
        go_simp
        with_reducible rfl
      rotate_left
      · simp only [Act.put, List.setIfInBounds_toArray, List.set_cons_zero, List.set_cons_succ, i64_w, i32_w]
        rfl
      refine pure_ (i := 26) (N := some 91) (v := ?_) (a' := ?_) #[true, true, true, true, true, true, true, true, true, true, true, true, true, true, true, true, true, true, true, true, true, true, true, true, true, true, true, false, false, false, false, false, false] rfl rfl (any_of HT_.out (by kernel_rfl)) (fun _ _ _ h => HPn.out _ _ _ _ _ h) (Or.inl ⟨by rfl, ?_⟩) ?_ ?_
      rotate_left
      · intro w'
        go_simp
        with_reducible rfl
      rotate_left
      · simp only [Act.put, List.setIfInBounds_toArray, List.set_cons_zero, List.set_cons_succ, i64_w, i32_w]
        rfl
      as_aux_lemma =>
      refine pure_ (i := 27) (N := some 92) (v := ?_) (a' := ?_) #[true, true, true, true, true, true, true, true, true, true, true, true, true, true, true, true, true, true, true, true, true, true, true, true, true, true, true, true, false, false, false, false, false] rfl rfl (any_of HT_.out (by kernel_rfl)) (fun _ _ _ h => HPn.out _ _ _ _ _ h) (Or.inl ⟨by rfl, ?_⟩) ?_ ?_
      rotate_left
      · intro w'
        go_simp
        with_reducible rfl
      rotate_left
      · simp only [Act.put, List.setIfInBounds_toArray, List.set_cons_zero, List.set_cons_succ, i64_w, i32_w]
        rfl
      refine one_ (i := 28) (N := some 93) #[true, true, true, true, true, true, true, true, true, true, true, true, true, true, true, true, true, true, true, true, true, true, true, true, true, true, true, true, true, false, false, false, false] rfl rfl (one_of HT_.out (by kernel_rfl)) (by decide) (fun K hK => ?_)
      refine goes_ Try.func65 (by kernel_rfl) rfl #[.int .i64 (l : Int), .int .i64 (k : Int)] (by rfl) rfl rfl (by (try simp only [List.map_toArray, List.map_cons, List.map_nil]); first | done | rfl) ?_
      with_reducible refine (pomaderef03_choose.calls 20 (l : Int) (k : Int) cf _ HCF.out).mono ?_
      rintro e w' ⟨rfl, ⟨nd, rfl⟩⟩
      refine ⟨_, rfl, ?_⟩
      refine hK.out _ _ hHeld (fun hHeld => ?_)
      refine norm_ (a' := ?_) ?_ ?_
      rotate_left
      · show Act.put _ (some 93) _ = _
        simp only [Act.put, List.setIfInBounds_toArray, List.set_cons_zero, List.set_cons_succ, i64_w, i32_w]
        rfl
      refine pure_ (i := 29) (N := some 94) (v := ?_) (a' := ?_) #[true, true, true, true, true, true, true, true, true, true, true, true, true, true, true, true, true, true, true, true, true, true, true, true, true, true, true, true, true, true, false, false, false] rfl rfl (any_of HT_.out (by kernel_rfl)) (fun _ _ _ h => HPn.out _ _ _ _ _ h) (Or.inl ⟨by rfl, ?_⟩) ?_ ?_
      rotate_left
      · intro w'
        go_simp
        with_reducible rfl
      rotate_left
      · simp only [Act.put, List.setIfInBounds_toArray, List.set_cons_zero, List.set_cons_succ, i64_w, i32_w]
        rfl
      as_aux_lemma =>
      refine pure_ (i := 30) (N := some 95) (v := ?_) (a' := ?_) #[true, true, true, true, true, true, true, true, true, true, true, true, true, true, true, true, true, true, true, true, true, true, true, true, true, true, true, true, true, true, true, false, false] rfl rfl (any_of HT_.out (by kernel_rfl)) (fun _ _ _ h => HPn.out _ _ _ _ _ h) (Or.inl ⟨by rfl, ?_⟩) ?_ ?_
      rotate_left
      · intro w'
        go_simp
        with_reducible rfl
      rotate_left
      · simp only [Act.put, List.setIfInBounds_toArray, List.set_cons_zero, List.set_cons_succ, i64_w, i32_w]
        rfl
      refine pure_ (i := 31) (N := some 96) (v := ?_) (a' := ?_) #[true, true, true, true, true, true, true, true, true, true, true, true, true, true, true, true, true, true, true, true, true, true, true, true, true, true, true, true, true, true, true, true, false] rfl rfl (any_of HT_.out (by kernel_rfl)) (fun _ _ _ h => HPn.out _ _ _ _ _ h) (Or.inl ⟨by rfl, ?_⟩) ?_ ?_
      rotate_left
      · intro w'
        go_simp
        with_reducible rfl
      rotate_left
      · simp only [Act.put, List.setIfInBounds_toArray, List.set_cons_zero, List.set_cons_succ, i64_w, i32_w]
        rfl
      refine last_ (i := 32) (N := none) #[true, true, true, true, true, true, true, true, true, true, true, true, true, true, true, true, true, true, true, true, true, true, true, true, true, true, true, true, true, true, true, true, true] rfl rfl (one_of HT_.out (by kernel_rfl)) (by decide) (fun K hK => ?_)
      refine skip_ (w1 := ?_) (by rfl) rfl ?_ ?_
      rotate_left
      · go_simp
        rfl
      refine hK.out _ _ ?_
      as_aux_lemma =>
      refine done_ (done_of HT_.out (by kernel_rfl)) ?_
      go_wp2
      clear w3 w3' w4 w4' w5 w5' w6 w6'
      go_roundw
      case rel => exact ⟨d + 1, _, by have := HDM.out; omega, (by have := HDM.out; have := HN.out; first | exact congrArg (Value.int .i64) (wI (by omega)) | exact congrArg (Value.int .i64) ((i64_w _).trans (wI (by omega))) | go_num), ⟨(HS.out.drewN nd).put (by have := HBD.out; omega) (by have := HBD.out; omega) (by have := HDM.out; omega) y1 y2 _⟩, HD2⟩
      case measure => first | exact mstepA (d_lt HDM.out) (m_le HN.out) | exact mstepB (d_lt HDM.out) (m_le HN.out)
    · have d5 : decide ((db : Int) ≤ (M : Int)) = false := decide_eq_false (by have := HN.out; omega)
      have d5n : (db ≤ M) = False := eq_false (by have := HN.out; omega)
      have hD2 : G = G4 := by
        have h := HD.out
        rw [show m1 - b - d = 0 by omega] at h
        simpa only [dRun] using h
      subst hD2
      obtain ⟨w3, w3', w4, w4', w5, w5', w6, w6'⟩ : wrap64 ((l : Int) - (k : Int)) = (a : Int) ∧ IntKind.i64.wrap ((l : Int) - (k : Int)) = (a : Int) ∧ wrap64 ((d : Int) + (tt : Int)) = (x1 : Int) ∧ IntKind.i64.wrap ((d : Int) + (tt : Int)) = (x1 : Int) ∧ wrap64 ((x1 : Int) - 1) = (db : Int) ∧ IntKind.i64.wrap ((x1 : Int) - 1) = (db : Int) ∧ wrap64 ((tt : Int) - 1) = (b : Int) ∧ IntKind.i64.wrap ((tt : Int) - 1) = (b : Int) := by
        have q1 := HN.out; have q2 := HBD.out; have q3 := HLN.out; have q4 := HUN.out
        exact ⟨wS (by omega) (by omega), (i64_w _).trans (wS (by omega) (by omega)), wA hx1 (by omega), (i64_w _).trans (wA hx1 (by omega)), wS1 (by omega) (by omega), (i64_w _).trans (wS1 (by omega) (by omega)), wS1 (by omega) (by omega), (i64_w _).trans (wS1 (by omega) (by omega))⟩
      clear HD hd hdm hdb hx1
      go_wp2
      exact HX.out _ _ _ _ _ _ _ _ _ _ _ _ _ _ _ _ _ _ _ _ _ _ _ _ _ _ _ _ _ _ _ _ _ _ _ _ _ _ _ _ _ _ HS
end Go.Proofs.Ytfopeenjpdaacaa.PC
end
section
set_option linter.unusedVariables false
set_option linter.unusedSimpArgs false
/- The specification's spread: the loop over k. -/
namespace Go.Proofs.Ytfopeenjpdaacaa.PC
open Go.RowKit Go.Proofs.YtfopeenjpdaacaaW.PrintWords Go.Proofs.YtfopeenjpdaacaaW.PrintLast Go.Proofs.YtfopeenjpdaacaaW.PrintMore
set_option linter.unusedVariables false
set_option linter.unusedSimpArgs false
set_option maxHeartbeats 16000000 in
set_option maxRecDepth 100000 in
theorem rsp_kloop {N M n1 m1 l u : Nat} {gT cT gN cN H : Nat} {T G G3 : T3} {w wr : World}
    (HN : Aside0 (n1 = N + 1 ∧ m1 = M + 1 ∧ 1 ≤ N ∧ N ≤ 10 ∧ M ≤ 45)) (HLN : Aside0 (l < n1)) (HUN : Aside0 (u + l < n1))
    (HS : Aside0 (St3 w H gT cT gN cN n1 m1 T G wr)) (HG3 : Aside0 (kRun T m1 l u (l + 1) 0 G = G3))
    {s1 s2 s5 s10 s11 s12 s13 s14 s15 s16 s17 s18 s19 s20 s21 s22 s23 s24 s25 s26 s27 s28 s29 s30 s31 s32 s33 s34 s35 s36 s37 s38 s39 s40 s41 s42 s43 s44 s45 s46 s47 s48 s49 s50 s51 s52 s53 s54 s55 s56 s57 s58 s59 s60 s61 s62 s63 s64 s65 s66 s67 s68 s69 s70 s71 s72 s73 s74 s75 s76 s77 s78 s79 s80 s81 s82 s83 s84 s85 s86 s87 s88 s89 s90 s91 s92 s93 s94 s95 s96 s97 s98 s99 s100 s101 s102 : Value} {Q0 : Exit → Act → World → Prop}
    (HPn : Aside0 (∀ (p_ : List PanicEntry) (a_ : Act) (d_ : Option Tmp) (v_ : Value) (w_ : World), Q0 (.panic p_) (a_.put d_ v_) w_ → Q0 (.panic p_) a_ w_)) (HX : Aside0 (∀ (v9 v10 v11 v47 v48 v49 v50 v51 v52 v53 v54 v55 v56 v57 v58 v59 v60 v61 v62 v63 v64 v65 v66 v67 v68 v69 v70 v71 v72 v73 v74 v75 v76 v77 v78 v79 v80 v81 v82 v83 v84 v85 v86 v87 v88 v89 v90 v91 v92 v93 v94 v95 v96 : Value) (w2 : World), Aside0 (St3 w H gT cT gN cN n1 m1 T G3 w2) → Q0 (.exit 6) ⟨List.toArray ((.int .i64 (N : Int)) :: s1 :: s2 :: (.int .i64 (M : Int)) :: (.slice (some ⟨gT, 0, none⟩) n1 cT) :: s5 :: (.slice (some ⟨gN, 0, none⟩) n1 cN) :: (.int .i64 (l : Int)) :: (.int .i64 (u : Int)) :: v9 :: v10 :: v11 :: s12 :: s13 :: s14 :: s15 :: s16 :: s17 :: s18 :: s19 :: s20 :: s21 :: s22 :: s23 :: s24 :: s25 :: s26 :: s27 :: s28 :: s29 :: s30 :: s31 :: s32 :: s33 :: s34 :: s35 :: s36 :: s37 :: s38 :: s39 :: s40 :: s41 :: s42 :: s43 :: s44 :: s45 :: s46 :: v47 :: v48 :: v49 :: v50 :: v51 :: v52 :: v53 :: v54 :: v55 :: v56 :: v57 :: v58 :: v59 :: v60 :: v61 :: v62 :: v63 :: v64 :: v65 :: v66 :: v67 :: v68 :: v69 :: v70 :: v71 :: v72 :: v73 :: v74 :: v75 :: v76 :: v77 :: v78 :: v79 :: v80 :: v81 :: v82 :: v83 :: v84 :: v85 :: v86 :: v87 :: v88 :: v89 :: v90 :: v91 :: v92 :: v93 :: v94 :: v95 :: v96 :: s97 :: s98 :: s99 :: s100 :: s101 :: s102 :: []), []⟩ w2)) :
    Code.wp Try.prog (Code.loop (rspLoop 3)) Q0 ⟨List.toArray ((.int .i64 (N : Int)) :: s1 :: s2 :: (.int .i64 (M : Int)) :: (.slice (some ⟨gT, 0, none⟩) n1 cT) :: s5 :: (.slice (some ⟨gN, 0, none⟩) n1 cN) :: (.int .i64 (l : Int)) :: (.int .i64 (u : Int)) :: (.int .i64 ((0 : Nat) : Int)) :: s10 :: s11 :: s12 :: s13 :: s14 :: s15 :: s16 :: s17 :: s18 :: s19 :: s20 :: s21 :: s22 :: s23 :: s24 :: s25 :: s26 :: s27 :: s28 :: s29 :: s30 :: s31 :: s32 :: s33 :: s34 :: s35 :: s36 :: s37 :: s38 :: s39 :: s40 :: s41 :: s42 :: s43 :: s44 :: s45 :: s46 :: s47 :: s48 :: s49 :: s50 :: s51 :: s52 :: s53 :: s54 :: s55 :: s56 :: s57 :: s58 :: s59 :: s60 :: s61 :: s62 :: s63 :: s64 :: s65 :: s66 :: s67 :: s68 :: s69 :: s70 :: s71 :: s72 :: s73 :: s74 :: s75 :: s76 :: s77 :: s78 :: s79 :: s80 :: s81 :: s82 :: s83 :: s84 :: s85 :: s86 :: s87 :: s88 :: s89 :: s90 :: s91 :: s92 :: s93 :: s94 :: s95 :: s96 :: s97 :: s98 :: s99 :: s100 :: s101 :: s102 :: []), []⟩ wr := by
  conv => arg 2; arg 1; whnf
  go_loopw [9] (fun v9 wr => ∃ (k : Nat) (G : T3), k ≤ l + 1 ∧ v9 = .int .i64 (k : Int) ∧ Aside0 (St3 w H gT cT gN cN n1 m1 T G wr) ∧ Aside0 (kRun T m1 l u (l + 1 - k) k G = G3)) (fun v9 _ => l + 1 - (intOf v9).toNat)
  case atStart => exact ⟨0, _, by omega, rfl, HS, HG3⟩
  case round => as_aux_lemma =>
    clear HS HG3
    obtain ⟨k, G, hk, rfl, HS, HK⟩ := hrel
    by_cases hkl : k ≤ l
    · have d3 : decide ((k : Int) ≤ (l : Int)) = true := decide_eq_true (by omega)
      have d3n : (k ≤ l) = True := eq_true hkl
      obtain ⟨tt, htt⟩ : ∃ tt, tt = u + k := ⟨_, rfl⟩
      have HTT := Aside0.mk htt
      have HKL := Aside0.mk hkl
      have hK2 := HK.out
      rw [show l + 1 - k = (l + 1 - (k + 1)) + 1 by omega] at hK2
      simp only [kRun] at hK2
      by_cases hz : u + k = 0
      · rw [if_pos hz] at hK2
        have d4 : ((tt : Int) == 0) = true := beq_iff_eq.2 (by omega)
        have d4n : (tt = 0) = True := eq_true (by omega)
        have HK2 := Aside0.mk hK2
        obtain ⟨w2, w2'⟩ : wrap64 ((u : Int) + (k : Int)) = (tt : Int) ∧ IntKind.i64.wrap ((u : Int) + (k : Int)) = (tt : Int) := ⟨wA HTT.out (by have := HN.out; have := HUN.out; have := HTT.out; omega), (i64_w _).trans (wA HTT.out (by have := HN.out; have := HUN.out; have := HTT.out; omega))⟩
        clear hK2 HK hz htt
        go_wp2
        clear w2 w2' d3 d3n d4 d4n
        have hl0 := HLN.out
        have hn0 := HN.out
        go_roundw
        case rel => exact ⟨k + 1, _, by omega, (by first | exact congrArg (Value.int .i64) (wI (k_b HKL.out HLN.out HN.out)) | exact congrArg (Value.int .i64) ((i64_w _).trans (wI (k_b HKL.out HLN.out HN.out))) | go_num), HS, HK2⟩
        case measure => first | exact mstepA (Nat.lt_succ_of_le HKL.out) (l_m HLN.out HN.out) | exact mstepB (Nat.lt_succ_of_le HKL.out) (l_m HLN.out HN.out)
      · rw [if_neg hz] at hK2
        have d4 : ((tt : Int) == 0) = false := beq_eq_false_iff_ne.2 (by omega)
        have d4n : (tt = 0) = False := eq_false (by omega)
        obtain ⟨b, hb⟩ : ∃ b, b + 1 = u + k := ⟨u + k - 1, by omega⟩
        obtain ⟨a, ha⟩ : ∃ a, a = l - k := ⟨_, rfl⟩
        obtain ⟨cf, hcf⟩ : ∃ cf, cfOf l k = cf := ⟨_, rfl⟩
        have HCF := Aside0.mk (show pomaderef03_choose.f 20 (l : Int) (k : Int) = some cf by rw [← hcf]; exact choose_ok l (by have := HN.out; have := HLN.out; omega) k hkl)
        obtain ⟨G4, hG4⟩ : ∃ G4, dRun (g2 T l u) cf a b (m1 - b) 0 G = G4 := ⟨_, rfl⟩
        rw [hcf, ← ha, show u + k - 1 = b by omega, hG4] at hK2
        have HK2 := Aside0.mk hK2
        have HG4 := Aside0.mk hG4
        have HBD := Aside0.mk (show a < n1 ∧ b < n1 ∧ a + k = l ∧ b + 1 = u + k ∧ tt = b + 1 by have := HN.out; have := HUN.out; have := HLN.out; omega)
        obtain ⟨w2, w2'⟩ : wrap64 ((u : Int) + (k : Int)) = (tt : Int) ∧ IntKind.i64.wrap ((u : Int) + (k : Int)) = (tt : Int) := ⟨wA HTT.out (by have := HN.out; have := HUN.out; have := HTT.out; omega), (i64_w _).trans (wA HTT.out (by have := HN.out; have := HUN.out; have := HTT.out; omega))⟩
        clear hK2 HK hz hcf ha hG4 hb hk hkl htt
        go_wp2
        clear d4 d4n w2 w2' d3 d3n
        refine rsp_dloop HN HLN HUN HBD HKL HCF HS HG4 ⟨fun _ _ _ _ _ h => HPn.out _ _ _ _ _ h⟩ ⟨?_⟩ rfl
        clear HS HG4
        intro v11 v57 v58 v59 v60 v61 v62 v63 v64 v65 v66 v67 v68 v69 v70 v71 v72 v73 v74 v75 v76 v77 v78 v79 v80 v81 v82 v83 v84 v85 v86 v87 v88 v89 v90 v91 v92 v93 v94 v95 v96 w2 HS
        have HKL2 := HKL.out
        go_wp2
        have hn0 := HN.out
        have hll0 := HLN.out
        go_roundw
        case rel => exact ⟨k + 1, _, by omega, (by first | exact congrArg (Value.int .i64) (wI (k_b HKL.out HLN.out HN.out)) | exact congrArg (Value.int .i64) ((i64_w _).trans (wI (k_b HKL.out HLN.out HN.out))) | go_num), HS, HK2⟩
        case measure => first | exact mstepA (Nat.lt_succ_of_le HKL.out) (l_m HLN.out HN.out) | exact mstepB (Nat.lt_succ_of_le HKL.out) (l_m HLN.out HN.out)
    · have d3 : decide ((k : Int) ≤ (l : Int)) = false := decide_eq_false (by omega)
      have d3n : (k ≤ l) = False := eq_false hkl
      have hK2 : G = G3 := by
        have h := HK.out
        rw [show l + 1 - k = 0 by omega] at h
        simpa only [kRun] using h
      subst hK2
      clear HK hk hkl
      go_wp2
      exact HX.out _ _ _ _ _ _ _ _ _ _ _ _ _ _ _ _ _ _ _ _ _ _ _ _ _ _ _ _ _ _ _ _ _ _ _ _ _ _ _ _ _ _ _ _ _ _ _ _ _ _ _ _ _ _ HS
end Go.Proofs.Ytfopeenjpdaacaa.PC
end
section
set_option linter.unusedVariables false
set_option linter.unusedSimpArgs false
/- The specification's spread: the walk. -/
namespace Go.Proofs.Ytfopeenjpdaacaa.PC
open Go.RowKit Go.Proofs.YtfopeenjpdaacaaW.PrintWords Go.Proofs.YtfopeenjpdaacaaW.PrintLast Go.Proofs.YtfopeenjpdaacaaW.PrintMore
set_option linter.unusedVariables false
set_option linter.unusedSimpArgs false
set_option maxHeartbeats 16000000 in
set_option maxRecDepth 100000 in
theorem spread_walk2 (N M n1 m1 : Nat) (h1 : 1 ≤ N) (h2 : N ≤ 10) (hM : M ≤ 45) (hMv : wrap64 (Int.tdiv (wrap64 ((N : Int) * wrap64 ((N : Int) - 1))) 2) = (M : Int)) (hn1 : n1 = N + 1) (hm1 : m1 = M + 1) (hE : pomaderef03_empty.f 400 (N : Int) (M : Int) = some (zero3 n1 m1)) (TF : T3) (hTF : cRun n1 m1 N (s3 (zero3 n1 m1) N 0 0 1) = TF) (w : World) :
    Calls Try.prog 58 #[.int .i64 (N : Int)] w fun e w' => ∃ v0_ : Value, e = .returned v0_ ∧ Kd.R (Kd.int .i64) 3 w' w.heap.size (fun _ => True) v0_ (g2 TF 0 0) ∧ Below w.heap.size w w' := by
  have HE := Aside0.mk hE
  have HTF := Aside0.mk hTF
  have HN := Aside0.mk (show n1 = N + 1 ∧ m1 = M + 1 ∧ 1 ≤ N ∧ N ≤ 10 ∧ M ≤ 45 from ⟨hn1, hm1, h1, h2, hM⟩)
  have hMw : IntKind.i64.wrap (Int.tdiv (IntKind.i64.wrap ((N : Int) * IntKind.i64.wrap ((N : Int) - 1))) 2) = (M : Int) := by simpa only [i64_w] using hMv
  clear hE hTF hn1 hm1 h1 h2 hM
  go_enter Try.func58, Try.ntmps58
  go_wp2_with (go_at_call 75; refine (empty_apart 400 _ _ _ _ HE.out).mono ?_; rintro e wa ⟨v4, rfl, hT0, hb0⟩; have HT0 := Aside0.mk hT0; have HB0 := Aside0.mk hb0; clear hT0 hb0; obtain ⟨g0, c0, rfl⟩ := tab_form HT0.out (zero_sh n1 m1) (by have := HN.out; omega); obtain ⟨ga0, ca0, gb0, cb0, z1, z2, z3, z4, z5, z6, z7⟩ := tab_put HT0.out (zero_sh n1 m1) (a := N) (b := 0) (d := 0) (by have := HN.out; omega) (by have := HN.out; omega) (by have := HN.out; omega); have zb1 : (N < n1) = True := eq_true (by have := HN.out; omega); have zb2 : (0 < n1) = True := eq_true (by have := HN.out; omega); have zb3 : (0 < m1) = True := eq_true (by have := HN.out; omega))
  clear hMv hMw
  go_loopw [4, 5] (fun v4 v5 wr => ∃ (j gT cT : Nat) (T : T3), j ≤ N ∧ v4 = .slice (some ⟨gT, 0, none⟩) n1 cT ∧ v5 = .int .i64 (j : Int) ∧ Aside0 (Tab wr w.heap.size (fun _ => True) (.slice (some ⟨gT, 0, none⟩) n1 cT) T) ∧ Aside0 (Sh T n1 m1) ∧ Aside0 (cRun n1 m1 (N - j) T = TF) ∧ Aside0 (Below w.heap.size w wr)) (fun _ v5 _ => N - (intOf v5).toNat)
  case atStart => exact ⟨0, g0, c0, _, by omega, rfl, rfl, ⟨z7 1⟩, ⟨(zero_sh n1 m1).set (by have := HN.out; omega) (by have := HN.out; omega) 0 1⟩, HTF, ⟨HB0.out.setCell (p := ⟨gb0, 0, none⟩) z6 _⟩⟩
  case round => as_aux_lemma =>
    clear z1 z2 z3 z4 z5 z6 z7 zb1 zb2 zb3 HT0 HB0 HTF
    obtain ⟨j, gT, cT, T, hj, rfl, rfl, HT, HSH, HC, HB⟩ := hrel
    have HJ := Aside0.mk hj
    clear hj
    by_cases hjN : j < N
    · have d0 : decide ((j : Int) < (N : Int)) = true := decide_eq_true (by omega)
      have d0n : (j < N) = True := eq_true hjN
      have HJN := Aside0.mk hjN
      obtain ⟨H, hH⟩ : ∃ H, H = wr.heap.size := ⟨_, rfl⟩
      have HH := Aside0.mk hH
      obtain ⟨G1, hG1⟩ : ∃ G1, lRun T n1 m1 n1 0 (zero3 n1 m1) = G1 := ⟨_, rfl⟩
      have hC2 : cRun n1 m1 (N - (j + 1)) G1 = TF := by
        have h := HC.out
        rw [show N - j = (N - (j + 1)) + 1 by omega] at h
        simp only [cRun] at h
        rw [hG1] at h
        exact h
      have HG1 := Aside0.mk hG1
      have HC2 := Aside0.mk hC2
      clear hjN hH hG1 hC2 HC
      go_wp2_with (go_at_call 75; refine (empty_apart 400 _ _ _ _ HE.out).mono ?_; rintro e we ⟨v6, rfl, hT1, hb1⟩; obtain ⟨gN, cN, rfl⟩ := tab_form hT1 (zero_sh n1 m1) (by have := HN.out; omega); have HS := Aside0.mk (show St3 w H gT cT gN cN n1 m1 T (zero3 n1 m1) we from ⟨HB.out.trans (hb1.mono HB.out.size), Kd.S_below (Kd.S_mono (Kd.S_bound HT.out) (fun k_ hk => by rw [HH.out]; exact hk.2.2.1)) hb1, Kd.S_lower (Kd.S_mono (Kd.S_bound hT1) (fun k_ hk => by rw [HH.out]; exact hk.2.1)) HB.out.size, HSH.out, zero_sh n1 m1⟩); clear hT1 hb1)
      clear HT HB HH
      go_loopw [7] (fun v7 wr => ∃ (l : Nat) (G : T3), l ≤ n1 ∧ v7 = .int .i64 (l : Int) ∧ Aside0 (St3 w H gT cT gN cN n1 m1 T G wr) ∧ Aside0 (lRun T n1 m1 (n1 - l) l G = G1)) (fun v7 _ => n1 - (intOf v7).toNat)
      case atStart => exact ⟨0, _, by omega, rfl, HS, HG1⟩
      case round => as_aux_lemma =>
        clear HS HG1
        obtain ⟨l, G, hl, rfl, HS, HL⟩ := hrel
        by_cases hlN : l < n1
        · have d1 : decide ((l : Int) ≤ (N : Int)) = true := decide_eq_true (by have := HN.out; omega)
          have d1n : (l ≤ N) = True := eq_true (by have := HN.out; omega)
          have HLN := Aside0.mk hlN
          obtain ⟨G2, hG2⟩ : ∃ G2, uRun T m1 l (n1 - l) 0 G = G2 := ⟨_, rfl⟩
          have hL2 : lRun T n1 m1 (n1 - (l + 1)) (l + 1) G2 = G1 := by
            have h := HL.out
            rw [show n1 - l = (n1 - (l + 1)) + 1 by omega] at h
            simp only [lRun] at h
            rw [hG2] at h
            exact h
          have HG2 := Aside0.mk hG2
          have HL2 := Aside0.mk hL2
          clear hl hlN hG2 hL2 HL
          go_wp2
          go_loopw [8] (fun v8 wr => ∃ (u : Nat) (G : T3), u + l ≤ n1 ∧ v8 = .int .i64 (u : Int) ∧ Aside0 (St3 w H gT cT gN cN n1 m1 T G wr) ∧ Aside0 (uRun T m1 l (n1 - l - u) u G = G2)) (fun v8 _ => n1 - (intOf v8).toNat)
          case atStart => exact ⟨0, _, by have := HLN.out; omega, rfl, HS, HG2⟩
          case round => as_aux_lemma =>
            clear HS HG2
            obtain ⟨u, G, hu, rfl, HS, HU⟩ := hrel
            obtain ⟨ul, hul⟩ : ∃ ul, ul = u + l := ⟨_, rfl⟩
            by_cases huN : u + l < n1
            · have d2 : decide ((ul : Int) ≤ (N : Int)) = true := decide_eq_true (by have := HN.out; omega)
              have d2n : (ul ≤ N) = True := eq_true (by have := HN.out; omega)
              have HUN := Aside0.mk huN
              obtain ⟨G3, hG3⟩ : ∃ G3, kRun T m1 l u (l + 1) 0 G = G3 := ⟨_, rfl⟩
              have hU2 : uRun T m1 l (n1 - l - (u + 1)) (u + 1) G3 = G2 := by
                have h := HU.out
                rw [show n1 - l - u = (n1 - l - (u + 1)) + 1 by omega] at h
                simp only [uRun] at h
                rw [hG3] at h
                exact h
              have HG3 := Aside0.mk hG3
              have HU2 := Aside0.mk hU2
              obtain ⟨w1, w1'⟩ : wrap64 ((u : Int) + (l : Int)) = (ul : Int) ∧ IntKind.i64.wrap ((u : Int) + (l : Int)) = (ul : Int) := ⟨wA hul (by have := HN.out; omega), (i64_w _).trans (wA hul (by have := HN.out; omega))⟩
              clear hu huN hG3 hU2 HU hul
              go_wp2
              clear d2 d2n w1 w1'
              refine rsp_kloop HN HLN HUN HS HG3 ⟨fun _ _ d_ _ _ h => by cases d_ <;> exact h⟩ ⟨?_⟩
              clear HS HG3
              intro v9 v10 v11 v47 v48 v49 v50 v51 v52 v53 v54 v55 v56 v57 v58 v59 v60 v61 v62 v63 v64 v65 v66 v67 v68 v69 v70 v71 v72 v73 v74 v75 v76 v77 v78 v79 v80 v81 v82 v83 v84 v85 v86 v87 v88 v89 v90 v91 v92 v93 v94 v95 v96 w2 HS
              have hu0 := HUN.out
              go_wp2
              have hn0 := HN.out
              have hll0 := HLN.out
              go_roundw
              case rel => exact ⟨u + 1, _, by omega, (by first | exact congrArg (Value.int .i64) (wI (u_b (u_lt HUN.out) HN.out)) | exact congrArg (Value.int .i64) ((i64_w _).trans (wI (u_b (u_lt HUN.out) HN.out))) | go_num), HS, HU2⟩
              case measure => first | exact mstepA (u_lt HUN.out) (n_m HN.out) | exact mstepB (u_lt HUN.out) (n_m HN.out)
            · have d2 : decide ((ul : Int) ≤ (N : Int)) = false := decide_eq_false (by have := HN.out; omega)
              have d2n : (ul ≤ N) = False := eq_false (by have := HN.out; omega)
              have hU2 : G = G2 := by
                have h := HU.out
                rw [show n1 - l - u = 0 by omega] at h
                simpa only [uRun] using h
              subst hU2
              obtain ⟨w1, w1'⟩ : wrap64 ((u : Int) + (l : Int)) = (ul : Int) ∧ IntKind.i64.wrap ((u : Int) + (l : Int)) = (ul : Int) := ⟨wA hul (by have := HN.out; have := HLN.out; omega), (i64_w _).trans (wA hul (by have := HN.out; have := HLN.out; omega))⟩
              clear HU hu huN hul
              have hl0 := HLN.out
              go_wp2
              clear w1 w1' d2 d2n
              have hn0 := HN.out
              have hll0 := HLN.out
              go_roundw
              case rel => exact ⟨l + 1, _, by omega, (by first | exact congrArg (Value.int .i64) (wI (u_b HLN.out HN.out)) | exact congrArg (Value.int .i64) ((i64_w _).trans (wI (u_b HLN.out HN.out))) | go_num), HS, HL2⟩
              case measure => first | exact mstepA (HLN.out) (n_m HN.out) | exact mstepB (HLN.out) (n_m HN.out)
        · have d1 : decide ((l : Int) ≤ (N : Int)) = false := decide_eq_false (by have := HN.out; omega)
          have d1n : (l ≤ N) = False := eq_false (by have := HN.out; omega)
          have hL2 : G = G1 := by
            have h := HL.out
            rw [show n1 - l = 0 by omega] at h
            simpa only [lRun] using h
          subst hL2
          clear HL hl hlN
          have hj0 := HJN.out
          go_wp2
          have hn0 := HN.out
          go_roundw
          case rel => exact ⟨j + 1, gN, cN, _, by omega, rfl, (by first | exact congrArg (Value.int .i64) (wI ((j_b HJN.out HN.out).1)) | exact congrArg (Value.int .i64) ((i64_w _).trans (wI ((j_b HJN.out HN.out).1))) | go_num), ⟨Kd.S_mono HS.out.g (fun _ _ => trivial)⟩, ⟨HS.out.sg⟩, HC2, ⟨HS.out.below⟩⟩
          case measure => first | exact mstepA (HJN.out) ((j_b HJN.out HN.out).2) | exact mstepB (HJN.out) ((j_b HJN.out HN.out).2)
    · have d0 : decide ((j : Int) < (N : Int)) = false := decide_eq_false (by omega)
      have d0n : (j < N) = False := eq_false hjN
      have hC2 : T = TF := by
        have h := HC.out
        rw [show N - j = 0 by omega] at h
        simpa only [cRun] using h
      subst hC2
      obtain ⟨ga, ca, v3, y1, y2, y3⟩ := tab_row HT.out HSH.out (by have := HN.out; omega)
      have b1 : (0 < n1) = True := eq_true (by have := HN.out; omega)
      have HR3 := Aside0.mk y3
      clear y3 HC
      go_wp2
      go_ret
      exact ⟨_, rfl, HR3.out, HB.out⟩
end Go.Proofs.Ytfopeenjpdaacaa.PC
end
section
set_option linter.unusedVariables false
set_option linter.unusedSimpArgs false
namespace Go.Proofs.Ytfopeenjpdaacaa.PC
open Go.RowKit Go.Proofs.YtfopeenjpdaacaaW.PrintWords Go.Proofs.YtfopeenjpdaacaaW.PrintLast Go.Proofs.YtfopeenjpdaacaaW.PrintMore
attribute [local go_sem] max2_int min2_int max_two min_two max_three min_three max_four min_four   -- for this text's walks alone
set_option linter.unusedVariables false
set_option linter.unusedSimpArgs false
/-! ### pomaderef03_spread: function 58 -/
def pomaderef03_spread.f (a0 : Int) : Option (List Int) := if a0 < 1 ∨ a0 > 10 then none else some (spreadL a0.toNat)
theorem spread_sides : ∀ N : Nat, N < 11 → N * (N - 1) / 2 ≤ 45 := by decide
theorem pomaderef03_spread.calls (a0 : Int) (r : List Int) (w : World) (h : pomaderef03_spread.f a0 = some r) :
  Calls Try.prog 58 #[.int .i64 a0] w fun e w' => ∃ v0_ : Value, e = .returned (v0_) ∧ Kd.R (Kd.int .i64) 3 w' w.heap.size (fun _ => True) v0_ r ∧ Below w.heap.size w w' := by
 unfold pomaderef03_spread.f at h
 split at h
 case isTrue => cases h
 case isFalse hc =>
 obtain rfl := Option.some.inj h
 obtain ⟨N, rfl⟩ : ∃ N : Nat, a0 = (N : Int) := ⟨a0.toNat, by omega⟩
 rw [Int.toNat_natCast]
 exact spread_walk2 N (N * (N - 1) / 2) (N + 1) (N * (N - 1) / 2 + 1) (by omega) (by omega) (spread_sides N (by omega)) (most_val N (by omega)) rfl rfl (empty_val N (by omega)) _ rfl w
end Go.Proofs.Ytfopeenjpdaacaa.PC
end
section
set_option linter.unusedVariables false
set_option linter.unusedSimpArgs false
namespace Go.Proofs.Ytfopeenjpdaacaa.PC
open Go.RowKit Go.Proofs.YtfopeenjpdaacaaW.PrintWords Go.Proofs.YtfopeenjpdaacaaW.PrintLast Go.Proofs.YtfopeenjpdaacaaW.PrintMore
attribute [local go_sem] max2_int min2_int max_two min_two max_three min_three max_four min_four   -- for this text's walks alone
set_option linter.unusedVariables false
set_option linter.unusedSimpArgs false
/-! ### pomaderef03_Spread: function 25 -/
def pomaderef03_Spread.f (a0 : Int) : Option (List Int × Int) := if a0 < 1 then (some (([] : List Int), 2)) else (if a0 > 10 then (some (([] : List Int), 2)) else ((pomaderef03_spread.f a0).bind fun t407 => (some (t407, 0))))
set_option maxHeartbeats 8000000 in
set_option maxRecDepth 100000 in
theorem pomaderef03_Spread.calls (a0 : Int) (r1 : List Int) (r2 : Int) (w : World) (h : pomaderef03_Spread.f a0 = some (r1, r2)) :
  Calls Try.prog 25 #[.int .i64 a0] w fun e w' => ∃ v0_ : Value, e = .returned (.tuple #[v0_, .int .i64 r2]) ∧ Kd.R (Kd.int .i64) 3 w' w.heap.size (fun _ => True) v0_ r1 ∧ Below w.heap.size w w' := by
 have HB := Aside0.mk (Below.refl w.heap.size w)
 have H : (if a0 < 1 then (some (([] : List Int), 2)) else (if a0 > 10 then (some (([] : List Int), 2)) else ((pomaderef03_spread.f a0).bind fun t407 => (some (t407, 0))))) = some (r1, r2) := h
 clear h
 by_cases c2 : a0 < 1
 ·rw [if_pos c2] at H
  have c2b0 : decide (a0 < 1) = true := decide_eq_true c2
  clear c2
  simp only [Option.some.injEq, Prod.mk.injEq] at H
  obtain ⟨rfl, rfl⟩ := H
  go_enter Try.func25, Try.ntmps25
  go_wp2
  go_ret2
  exact ⟨_, by first | rfl | (simp [errW_none, errW_some] <;> rfl) | (simp [*, errW_none, errW_some] <;> rfl), by first | exact Kd.R_nil _ _ _ _ _ | exact Kd.N_nil _ _ _ _ _ | exact Kd.V_nil _ _ _ _ _ | exact Kd.Q_nil _ _ _ _ _ | exact Kd.S_nil _ _ _ _ _, by repeat (first | (with_reducible first | exact HB.out | apply below_alloc | apply pw_below_drewN | apply below_drew1) | exact HB.out)⟩
 ·rw [if_neg c2] at H
  have c2b0 : decide (a0 < 1) = false := decide_eq_false c2
  clear c2
  by_cases c3 : a0 > 10
  ·rw [if_pos c3] at H
   have c3b0 : decide (10 < a0) = true := decide_eq_true c3
   clear c3
   simp only [Option.some.injEq, Prod.mk.injEq] at H
   obtain ⟨rfl, rfl⟩ := H
   go_enter Try.func25, Try.ntmps25
   go_wp2
   go_ret2
   exact ⟨_, by first | rfl | (simp [errW_none, errW_some] <;> rfl) | (simp [*, errW_none, errW_some] <;> rfl), by first | exact Kd.R_nil _ _ _ _ _ | exact Kd.N_nil _ _ _ _ _ | exact Kd.V_nil _ _ _ _ _ | exact Kd.Q_nil _ _ _ _ _ | exact Kd.S_nil _ _ _ _ _, by repeat (first | (with_reducible first | exact HB.out | apply below_alloc | apply pw_below_drewN | apply below_drew1) | exact HB.out)⟩
  ·rw [if_neg c3] at H
   have c3b0 : decide (10 < a0) = false := decide_eq_false c3
   clear c3
   replace H := Option.bind_eq_some_iff.mp H
   obtain ⟨t407, A40, H⟩ := H
   replace H : (some (t407, 0)) = some (r1, r2) := H
   have A4 := Aside0.mk A40
   clear A40
   simp only [Option.some.injEq, Prod.mk.injEq] at H
   obtain ⟨rfl, rfl⟩ := H
   go_enter Try.func25, Try.ntmps25
   go_wp2_with (first | ((with_reducible refine gate_callee (f := 58) rfl ?_); refine goesL_ (some 11) rfl rfl Try.func58 (by kernel_rfl) rfl #[.int .i64 a0] rfl (by (try simp only [List.map_toArray, List.map_cons, List.map_nil]); first | done | rfl | (simp only [List.length_drop, List.length_take]; rfl)) ?_; (with_reducible refine (pomaderef03_spread.calls a0 t407 _ A4.out).mono ?_); rintro e w5 ⟨v408, rfl, ho0, hb⟩; refine ⟨_, rfl, ?_⟩; have n0_ := Aside0.mk (Kd.R_lower ho0 (below_size (by repeat (first | (with_reducible first | exact HB.out | apply below_alloc | apply pw_below_drewN | apply below_drew1) | exact HB.out)))); have n1_ := Aside0.mk (below_step (by repeat (first | (with_reducible first | exact HB.out | apply below_alloc | apply pw_below_drewN | apply below_drew1) | exact HB.out)) hb); clear HB; have HO409 := n0_; have HB := n1_; clear n0_ n1_; (try clear hb); (try clear hb2); (try clear hk); (try clear hi); (try clear ho0)))
   go_ret2
   exact ⟨_, by first | rfl | (simp [errW_none, errW_some] <;> rfl) | (simp [*, errW_none, errW_some] <;> rfl), by (with_reducible repeat (first | apply Kd.R_alloc | apply Kd.R_drewN | apply Kd.R_drew)); exact HO409.out, by repeat (first | (with_reducible first | exact HB.out | apply below_alloc | apply pw_below_drewN | apply below_drew1) | exact HB.out)⟩
end Go.Proofs.Ytfopeenjpdaacaa.PC
end
