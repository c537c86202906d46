/- Parts of the proof of LawTopCycles, one behind the other: PCx0 HShelf HRead HOf HVal HTown HTest HAll HKer HHas PCf14 LMem HOn HFirst HArcs HArcW HCon HCut HOdd HCycB HCyc0 HCyc1 HCyc2 HCyc HKernel HOddW HCycW HIs HSent. -/
import Derived.Test.YtagmadfllfcloaaProg
import Derived.Below
import Derived.Deep.Draws
import Derived.Deep.AppendLies
import Derived.Maps.AppendAt
import Derived.OwnWalk
import Derived.Laws.BytesArg
import Derived.Laws.MakeOwn
import Derived.Laws.OwnMore
import Derived.Deep.OwnRows
import Derived.Tactics
import Derived.Lib.ConvBytes
import Derived.Laws.Slices
import Derived.WalkKit
import Derived.KernelRfl
import Derived.RowKit3
import Derived.Deep.LoopGhost
import Derived.Deep.QuietTactic
import Derived.BigQuiet
import Derived.WideLaws
import Derived.Deep.DeepCutAuto
import Derived.Deep.CutBlock
import Derived.Deep.RegionHeld3
import Derived.Laws.Rows
import Derived.Lib.AppendStr
import Derived.ArgAppend
import Derived.Laws.IdiomCopy
import Derived.OrdersHeld
import Derived.Laws.BitsLemmas
import Derived.RowKit
import Derived.Shelf.Strings.Builder1
import Derived.Shelf.Strings.Builder2
import Derived.Shelf.Strings.OnBuilder
import Derived.Shelf.Strings.BuilderF
import Derived.Shelf.Strings.Search1
import Derived.Shelf.Strings.Search2
import Derived.Shelf.Strings.Search3
import Derived.Shelf.LaysM
import Derived.Shelf.Strings.Shaped
import Derived.Shelf.Strings.Prefix
import Derived.Shelf.Bits.Mul64
import Derived.Shelf.Strings.Repeat
import Derived.Lib.Hide
import Derived.Handy
import Derived.StillTailTactics
import Derived.Deep.RegionLawGrows
import Derived.Test.YtagmadfllfcloaaJTopCycles1
section
set_option linter.unusedVariables false
set_option linter.unusedSimpArgs false
namespace Go.Proofs.Ytagmadfllfcloaa.PC
open Go.RowKit Go.Proofs.YtagmadfllfcloaaW.PrintWords Go.Proofs.YtagmadfllfcloaaW.PrintLast Go.Proofs.YtagmadfllfcloaaW.PrintMore
attribute [local go_sem] max2_int min2_int max_two min_two max_three min_three max_four min_four   -- for this text's walks alone
set_option linter.unusedVariables false
set_option linter.unusedSimpArgs false
def errW : Option Int → Value
  | none => .nilIface
  | some c => .iface 0 (.int .i64 c)
theorem errW_none : errW none = .nilIface := rfl
theorem errW_some (c : Int) : errW (some c) = .iface 0 (.int .i64 c) := rfl
theorem info3 : (Try.prog.info? 3).map (fun i => (i.zero, i.size, i.bytes)) = some (some (.int .i64 0), 1, 8) := by kernel_rfl
theorem info9 : (Try.prog.info? 9).map (fun i => (i.zero, i.size, i.bytes)) = some (some (.string ⟨#[]⟩), 1, 16) := by kernel_rfl
/-! #### struct type 41 -/
structure S41 where
  f0 : Int
  f1 : Int
def z41 : S41 := ⟨(0 : Int), (0 : Int)⟩
def k41 : Kd S41 := Kd.iso (Kd.pair (Kd.int .i64) (Kd.int .i64)) (fun x : S41 => (x.f0, x.f1))
theorem k41_open {w : World} {x : S41} {cs : List Value} (h : k41.K w x cs) : cs = [.int .i64 x.f0, .int .i64 x.f1] := by
  obtain ⟨_, _, rfl, rfl, rfl⟩ := h
  exact rfl
theorem k41_mk (w : World) (x : S41)  : k41.K w x [.int .i64 x.f0, .int .i64 x.f1] := ⟨[.int .i64 x.f0], [.int .i64 x.f1], rfl, rfl, rfl⟩
def rd_T41 (xs : List S41) (i : Int) : S41 := xs.getD i.toNat z41
theorem at_T41 {w : World} {A : Option Addr} {n : Nat} {xs : List S41} (h : Kd.C k41 w A n xs) (i : Int) (h0 : 0 ≤ i) (h1 : i < n) : ∃ ad , A = some ad ∧ w.cell? (ad.add (i.toNat * 2)) = some (.int .i64 (rd_T41 xs i).f0) ∧ w.cell? ⟨(ad.add (i.toNat * 2)).block, (ad.add (i.toNat * 2)).off + 1, none⟩ = some (.int .i64 (rd_T41 xs i).f1) := by
  obtain ⟨ad, c, e, _, hK, hc0⟩ := Kd.C_get h z41 i h0 h1
  have hc : ∀ j u, c[j]? = some u → w.cell? (ad.add (i.toNat * 2 + j)) = some u := hc0
  obtain rfl := k41_open hK
  exact ⟨ad, e, hc 0 _ rfl, by rw [← add_field _ _ 1 (by omega)]; exact hc 1 _ rfl⟩
end Go.Proofs.Ytagmadfllfcloaa.PC
end
section
set_option linter.unusedVariables false
set_option linter.unusedSimpArgs false
/- Contracts of the library at this dump (laid by the kit's program). -/
namespace Go.Proofs.Ytagmadfllfcloaa.PC
open Go.Shelf
def sh_lays156_ren : Go.Shelf.Ren := ⟨fun | 156 => 15 | 165 => 28 | 166 => 29 | 169 => 30 | 240 => 42 | 241 => 43 | 276 => 51 | 277 => 52 | n => n, fun | 31 => 25 | 9 => 9 | 3 => 3 | 4 => 4 | 0 => 0 | 20 => 20 | 72 => 72 | 76 => 76 | 70 => 69 | 37 => 70 | 75 => 75 | 127 => 96 | 164 => 106 | 5 => 5 | 80 => 78 | n => n, fun | n => n⟩
theorem sh_lays156 : Go.Proofs.Lays.n156 Try.prog sh_lays156_ren := {
  mixed := by kernel_rfl
  f156 := Try.func15.trans (congrArg some (by kernel_rfl))
  f165 := Try.func28.trans (congrArg some (by kernel_rfl))
  f166 := Try.func29.trans (congrArg some (by kernel_rfl))
  f169 := Try.func30.trans (congrArg some (by kernel_rfl))
  f240 := Try.func42.trans (congrArg some (by kernel_rfl))
  f241 := Try.func43.trans (congrArg some (by kernel_rfl))
  f276 := Try.func51.trans (congrArg some (by kernel_rfl))
  f277 := Try.func52.trans (congrArg some (by kernel_rfl))
  t0 := Try.underlying0
  a0 := Try.isAgg0
  z0 := Try.sizeOf0
  v0 := Try.zeroValue0
  t3 := Try.underlying3
  a3 := Try.isAgg3
  z3 := Try.sizeOf3
  v3 := Try.zeroValue3
  t4 := Try.underlying4
  a4 := Try.isAgg4
  z4 := Try.sizeOf4
  v4 := Try.zeroValue4
  t9 := Try.underlying9
  a9 := Try.isAgg9
  z9 := Try.sizeOf9
  v9 := Try.zeroValue9
  t20 := Try.underlying20
  a20 := Try.isAgg20
  z20 := Try.sizeOf20
  v20 := Try.zeroValue20
  t31 := Try.underlying25
  a31 := Try.isAgg25
  z31 := Try.sizeOf25
  v31 := Try.zeroValue25
  t37 := Try.underlying70
  a37 := Try.isAgg70
  z37 := Try.sizeOf70
  v37 := Try.zeroValue70
  t70 := Try.underlying69
  a70 := Try.isAgg69
  z70 := Try.sizeOf69
  v70 := Try.zeroValue69
  t72 := Try.underlying72
  a72 := Try.isAgg72
  z72 := Try.sizeOf72
  v72 := Try.zeroValue72
  t75 := Try.underlying75
  a75 := Try.isAgg75
  z75 := Try.sizeOf75
  v75 := Try.zeroValue75
  t76 := Try.underlying76
  a76 := Try.isAgg76
  z76 := Try.sizeOf76
  v76 := Try.zeroValue76
  t127 := Try.underlying96
  a127 := Try.isAgg96
  z127 := Try.sizeOf96
  v127 := Try.zeroValue96
  t164 := Try.underlying106
  a164 := Try.isAgg106
  z164 := Try.sizeOf106
  v164 := Try.zeroValue106 }
theorem sh_Builder_Extra_156 : Builder.Extra Try.prog sh_lays156_ren := {
  sizeBuilder := by kernel_rfl
  liesBuilder := by kernel_rfl
  t5 := Try.underlying5
  a5 := Try.isAgg5
  z5 := Try.sizeOf5
  v5 := Try.zeroValue5
  infoByte := by kernel_rfl
  cellsByte := by kernel_rfl
  sizeByte := by kernel_rfl
  neB5 := by decide }
open Go.RowKit in
/-- strings.Join: "Join concatenates the elements of its first argument to create a single string. The separator string sep is placed between elements in the resulting string.": HOWEVER MANY ELEMENTS. Below the heap's end the world is as it was. (LAID: no walk: one application.) -/
theorem sh_strings_Join (bk o c : Nat) (xs : List ByteArray) (sep : ByteArray) (w : World) (hcells : ∀ (j : Nat) x, xs[j]? = some x → w.cell? ⟨bk, o + j, none⟩ = some (.string x)) (hbk : bk < w.heap.size) (hN : xs.length ≤ 140737488355328) (hcap : xs.length ≤ c) (hlen : (Lib.join (xs.map (·.data.toList)) sep.data.toList).length ≤ 140737488355328) :
    Calls Try.prog 15 #[.slice (some ⟨bk, o, none⟩) xs.length c, .string sep] w fun e w' => e = .returned (.string ⟨(Lib.join (xs.map (·.data.toList)) sep.data.toList).toArray⟩) ∧ Below w.heap.size w w' := Any.strings_Join sh_lays156 sh_Builder_Extra_156 bk o c xs sep w hcells hbk hN hcap hlen
def sh_lays144_ren : Go.Shelf.Ren := ⟨fun | 144 => 53 | 143 => 54 | 219 => 55 | 217 => 56 | 225 => 57 | 224 => 58 | 267 => 59 | 266 => 60 | 314 => 61 | n => n, fun | 9 => 9 | 4 => 4 | 3 => 3 | 5 => 5 | 46 => 86 | 146 => 101 | 51 => 100 | n => n, fun | 1 => 0 | n => n⟩
theorem sh_lays144 : Go.Proofs.Lays.n144 Try.prog sh_lays144_ren := {
  mixed := by kernel_rfl
  f143 := Try.func54.trans (congrArg some (by kernel_rfl))
  f144 := Try.func53.trans (congrArg some (by kernel_rfl))
  f217 := Try.func56.trans (congrArg some (by kernel_rfl))
  f219 := Try.func55.trans (congrArg some (by kernel_rfl))
  f224 := Try.func58.trans (congrArg some (by kernel_rfl))
  f225 := Try.func57.trans (congrArg some (by kernel_rfl))
  f266 := Try.func60.trans (congrArg some (by kernel_rfl))
  f267 := Try.func59.trans (congrArg some (by kernel_rfl))
  f314 := Try.func61.trans (congrArg some (by kernel_rfl))
  t3 := Try.underlying3
  a3 := Try.isAgg3
  z3 := Try.sizeOf3
  v3 := Try.zeroValue3
  t4 := Try.underlying4
  a4 := Try.isAgg4
  z4 := Try.sizeOf4
  v4 := Try.zeroValue4
  t5 := Try.underlying5
  a5 := Try.isAgg5
  z5 := Try.sizeOf5
  v5 := Try.zeroValue5
  t9 := Try.underlying9
  a9 := Try.isAgg9
  z9 := Try.sizeOf9
  v9 := Try.zeroValue9
  t46 := Try.underlying86
  a46 := Try.isAgg86
  z46 := Try.sizeOf86
  v46 := Try.zeroValue86
  t51 := Try.underlying100
  a51 := Try.isAgg100
  z51 := Try.sizeOf100
  v51 := Try.zeroValue100
  t146 := Try.underlying101
  a146 := Try.isAgg101
  z146 := Try.sizeOf101
  v146 := Try.zeroValue101
  g1 := by kernel_rfl }
open Go.RowKit Go.Lib in
/-- strings.Contains: "Contains reports whether substr is within s.": AT A substr OF ONE BYTE c: IT RETURNS 'decide (0 ≤ Lib.indexByte s c)'; the world is as it was. (LAID: no walk: one application.) -/
theorem sh_strings_Contains_one (s : ByteArray) (c : UInt8) (w : World) :
    Calls Try.prog 53 #[.string s, .string ⟨#[c]⟩] w fun e w' => e = .returned (.bool (decide (0 ≤ Lib.indexByte s.data.toList c))) ∧ w' = w := Any.strings_Contains_one sh_lays144 s c w
def sh_lays105_ren : Go.Shelf.Ren := ⟨fun | 105 => 20 | 212 => 35 | 99 => 36 | 165 => 28 | 166 => 29 | 170 => 37 | 169 => 30 | 263 => 47 | 264 => 48 | 206 => 49 | 240 => 42 | 241 => 43 | 276 => 51 | 277 => 52 | n => n, fun | 9 => 9 | 3 => 3 | 4 => 4 | 20 => 20 | 0 => 0 | 46 => 86 | 109 => 87 | 5 => 5 | 72 => 72 | 76 => 76 | 51 => 100 | 146 => 101 | 53 => 103 | 148 => 104 | 70 => 69 | 37 => 70 | 75 => 75 | 127 => 96 | 164 => 106 | 80 => 78 | n => n, fun | n => n⟩
theorem sh_lays105 : Go.Proofs.Lays.n105 Try.prog sh_lays105_ren := {
  mixed := by kernel_rfl
  f99 := Try.func36.trans (congrArg some (by kernel_rfl))
  f105 := Try.func20.trans (congrArg some (by kernel_rfl))
  f165 := Try.func28.trans (congrArg some (by kernel_rfl))
  f166 := Try.func29.trans (congrArg some (by kernel_rfl))
  f169 := Try.func30.trans (congrArg some (by kernel_rfl))
  f170 := Try.func37.trans (congrArg some (by kernel_rfl))
  f206 := Try.func49.trans (congrArg some (by kernel_rfl))
  f212 := Try.func35.trans (congrArg some (by kernel_rfl))
  f240 := Try.func42.trans (congrArg some (by kernel_rfl))
  f241 := Try.func43.trans (congrArg some (by kernel_rfl))
  f263 := Try.func47.trans (congrArg some (by kernel_rfl))
  f264 := Try.func48.trans (congrArg some (by kernel_rfl))
  f276 := Try.func51.trans (congrArg some (by kernel_rfl))
  f277 := Try.func52.trans (congrArg some (by kernel_rfl))
  t0 := Try.underlying0
  a0 := Try.isAgg0
  z0 := Try.sizeOf0
  v0 := Try.zeroValue0
  t3 := Try.underlying3
  a3 := Try.isAgg3
  z3 := Try.sizeOf3
  v3 := Try.zeroValue3
  t4 := Try.underlying4
  a4 := Try.isAgg4
  z4 := Try.sizeOf4
  v4 := Try.zeroValue4
  t5 := Try.underlying5
  a5 := Try.isAgg5
  z5 := Try.sizeOf5
  v5 := Try.zeroValue5
  t9 := Try.underlying9
  a9 := Try.isAgg9
  z9 := Try.sizeOf9
  v9 := Try.zeroValue9
  t20 := Try.underlying20
  a20 := Try.isAgg20
  z20 := Try.sizeOf20
  v20 := Try.zeroValue20
  t37 := Try.underlying70
  a37 := Try.isAgg70
  z37 := Try.sizeOf70
  v37 := Try.zeroValue70
  t46 := Try.underlying86
  a46 := Try.isAgg86
  z46 := Try.sizeOf86
  v46 := Try.zeroValue86
  t51 := Try.underlying100
  a51 := Try.isAgg100
  z51 := Try.sizeOf100
  v51 := Try.zeroValue100
  t53 := Try.underlying103
  a53 := Try.isAgg103
  z53 := Try.sizeOf103
  v53 := Try.zeroValue103
  t70 := Try.underlying69
  a70 := Try.isAgg69
  z70 := Try.sizeOf69
  v70 := Try.zeroValue69
  t72 := Try.underlying72
  a72 := Try.isAgg72
  z72 := Try.sizeOf72
  v72 := Try.zeroValue72
  t75 := Try.underlying75
  a75 := Try.isAgg75
  z75 := Try.sizeOf75
  v75 := Try.zeroValue75
  t76 := Try.underlying76
  a76 := Try.isAgg76
  z76 := Try.sizeOf76
  v76 := Try.zeroValue76
  t109 := Try.underlying87
  a109 := Try.isAgg87
  z109 := Try.sizeOf87
  v109 := Try.zeroValue87
  t127 := Try.underlying96
  a127 := Try.isAgg96
  z127 := Try.sizeOf96
  v127 := Try.zeroValue96
  t146 := Try.underlying101
  a146 := Try.isAgg101
  z146 := Try.sizeOf101
  v146 := Try.zeroValue101
  t148 := Try.underlying104
  a148 := Try.isAgg104
  z148 := Try.sizeOf104
  v148 := Try.zeroValue104
  t164 := Try.underlying106
  a164 := Try.isAgg106
  z164 := Try.sizeOf106
  v164 := Try.zeroValue106 }
theorem sh_Builder_Extra_105 : Builder.Extra Try.prog sh_lays105_ren := {
  sizeBuilder := by kernel_rfl
  liesBuilder := by kernel_rfl
  t5 := Try.underlying5
  a5 := Try.isAgg5
  z5 := Try.sizeOf5
  v5 := Try.zeroValue5
  infoByte := by kernel_rfl
  cellsByte := by kernel_rfl
  sizeByte := by kernel_rfl
  neB5 := by decide }
open Go.RowKit Go.Lib in
/-- **strings.Repeat: count ≥ 0, the result within one allocation: count copies of s.** (LAID: no walk: one application.) -/
theorem sh_strings_Repeat (s : ByteArray) (c : Nat) (w : World) (hc : c ≤ 9223372036854775807) (hlen : s.size * c ≤ 140737488355328) :
    Calls Try.prog 20 #[.string s, .int .i64 c] w fun e w' => e = .returned (.string ⟨(Lib.repeatL s.data.toList c).toArray⟩) ∧ Below w.heap.size w w' := Any.strings_Repeat sh_lays105 sh_Builder_Extra_105 s c w hc hlen
end Go.Proofs.Ytagmadfllfcloaa.PC
end
section
set_option linter.unusedVariables false
set_option linter.unusedSimpArgs false
/- truth.read on the sentences of a town: the walk. -/
namespace Go.Proofs.Ytagmadfllfcloaa.PC
open Go.RowKit Go.Proofs.YtagmadfllfcloaaW.PrintWords Go.Proofs.YtagmadfllfcloaaW.PrintLast Go.Proofs.YtagmadfllfcloaaW.PrintMore
set_option linter.unusedVariables false
set_option linter.unusedSimpArgs false
theorem wI {a : Nat} (h : a ≤ 1000000) : wrap64 ((a : Int) + 1) = ((a + 1 : Nat) : Int) := by unfold wrap64; omega
theorem vI {a : Nat} (h : a ≤ 1000000) : Value.int .i64 (wrap64 ((a : Int) + 1)) = Value.int .i64 ((a + 1 : Nat) : Int) := congrArg _ (wI h)
theorem mstepA {m a : Nat} (h : a < m) (hm : m ≤ 1000) : m - (intOf (Value.int .i64 (wrap64 ((a : Int) + 1)))).toNat < m - (intOf (Value.int .i64 (a : Int))).toNat := by
  rw [wI (by omega)]; simp only [intOf]; omega
theorem wD {a : Nat} (h : a ≤ 1000000) : wrap64 ((a : Int) - 1) = (a : Int) - 1 := by unfold wrap64; omega
/-- The sentence of a list of people: none of them. -/
def combS : List Nat → List UInt8
  | [] => [49]
  | [x] => [33, UInt8.ofNat (97 + x)]
  | x :: y :: r => 40 :: 33 :: UInt8.ofNat (97 + x) :: 38 :: (combS (y :: r) ++ [41])
/-- The value of a letter that is denied. -/
def notV (x : Nat) : Value := .iface 112 (.agg #[.iface 110 (.int .i64 (x : Int))])
/-- Its formula, as a value. -/
def combV : List Nat → Value
  | [] => .iface 109 (.int .u8 49)
  | [x] => notV x
  | x :: y :: r => .iface 114 (.agg #[notV x, combV (y :: r), .int .u8 38])
theorem ba_head0 (c : UInt8) (rest : List UInt8) (h) : ({ data := (c :: rest).toArray } : ByteArray)[0]'h = c := rfl
theorem ba_tail (c : UInt8) (rest : List UInt8) (k : Nat) (h : k = rest.length + 1) : ({ data := (c :: rest).toArray } : ByteArray).extract 1 k = { data := rest.toArray } := by
  subst h
  apply ByteArray.ext
  simp
theorem ba_first (c : UInt8) (rest : List UInt8) : ({ data := (c :: rest).toArray } : ByteArray).extract 0 1 = { data := #[c] } := by
  apply ByteArray.ext
  simp
theorem u48 : (48 : UInt8).toNat = 48 := rfl
theorem u49 : (49 : UInt8).toNat = 49 := rfl
theorem u40 : (40 : UInt8).toNat = 40 := rfl
theorem u41 : (41 : UInt8).toNat = 41 := rfl
theorem u33 : (33 : UInt8).toNat = 33 := rfl
theorem u38 : (38 : UInt8).toNat = 38 := rfl
attribute [local go_sem] ba_head0 ba_tail ba_first u48 u49 u40 u41 u33 u38
set_option maxHeartbeats 1000000 in
theorem read_one (rest : List UInt8) (n : Nat) (w : World) :
    Calls Try.prog 46 #[.string ⟨(49 :: rest).toArray⟩, .int .i64 (n : Int)] w fun e w' => e = .returned (.tuple #[.iface 109 (.int .u8 49), .string ⟨rest.toArray⟩]) ∧ ∃ m, w' = w.drewN m := by
  go_enter Try.func46, Try.ntmps46
  go_wp2
  go_quiet (fail)
  go_wp2
  go_ret2
  exact ⟨rfl, _, rfl⟩
theorem letter_facts (x n : Nat) (hx : x < n) (hn : n ≤ 10) : ∃ c : UInt8, c = UInt8.ofNat (97 + x) ∧ (c.toNat : Int) = 97 + (x : Int) := by
  refine ⟨_, rfl, ?_⟩
  rw [UInt8.toNat_ofNat']
  omega
set_option maxHeartbeats 1000000 in
theorem read_letter (x n : Nat) (hx : x < n) (hn : n ≤ 10) (rest : List UInt8) (w : World) :
    Calls Try.prog 46 #[.string ⟨(UInt8.ofNat (97 + x) :: rest).toArray⟩, .int .i64 (n : Int)] w fun e w' => e = .returned (.tuple #[.iface 110 (.int .i64 (x : Int)), .string ⟨rest.toArray⟩]) ∧ ∃ m, w' = w.drewN m := by
  obtain ⟨c, hc, hq⟩ := letter_facts x n hx hn
  rw [← hc]
  have e1 : ((c.toNat : Int) == 48) = false := by rw [hq]; exact beq_eq_false_iff_ne.2 (by omega)
  have e2 : ((c.toNat : Int) == 49) = false := by rw [hq]; exact beq_eq_false_iff_ne.2 (by omega)
  have e3 : decide ((97 : Int) ≤ (c.toNat : Int)) = true := by rw [hq]; exact decide_eq_true (by omega)
  have e4 : IntKind.u8.wrap ((c.toNat : Int) - 97) = (x : Int) := by rw [hq, IntKind.wrap_u8]; omega
  have e6 : wrap64 (x : Int) = (x : Int) := by unfold wrap64; omega
  have e5 : decide ((x : Int) < (n : Int)) = true := decide_eq_true (by omega)
  have e7 : (x < n) = True := eq_true hx
  clear hc hq hx hn
  go_enter Try.func46, Try.ntmps46
  go_wp2
  go_quiet (fail)
  go_wp2
  go_ret2
  exact ⟨rfl, _, rfl⟩
set_option maxHeartbeats 1000000 in
theorem read_not (x n : Nat) (hx : x < n) (hn : n ≤ 10) (rest : List UInt8) (w : World) :
    Calls Try.prog 46 #[.string ⟨(33 :: UInt8.ofNat (97 + x) :: rest).toArray⟩, .int .i64 (n : Int)] w fun e w' => e = .returned (.tuple #[notV x, .string ⟨rest.toArray⟩]) ∧ ∃ m, w' = w.drewN m := by
  have HL := Lib.hid (read_letter x n hx hn rest)
  obtain ⟨c, hc⟩ : ∃ c, UInt8.ofNat (97 + x) = c := ⟨_, rfl⟩
  rw [hc] at HL ⊢
  clear hc hx hn
  go_enter Try.func46, Try.ntmps46
  go_wp2
  go_quiet (fail)
  go_wp2_with (go_at_call 46; refine (HL.out _).mono ?_; rintro e wa ⟨rfl, ⟨m, rfl⟩⟩)
  go_ret2
  exact ⟨rfl, _, rfl⟩
set_option maxHeartbeats 2000000 in
set_option maxRecDepth 100000 in
theorem read_pair (x n : Nat) (hx : x < n) (hn : n ≤ 10) (mid rest : List UInt8) (T : TypeId) (X : Value) (w : World)
    (hm : ∀ w, Calls Try.prog 46 #[.string ⟨(mid ++ 41 :: rest).toArray⟩, .int .i64 (n : Int)] w fun e w' => e = .returned (.tuple #[.iface T X, .string ⟨(41 :: rest).toArray⟩]) ∧ ∃ m, w' = w.drewN m) :
    Calls Try.prog 46 #[.string ⟨(40 :: 33 :: UInt8.ofNat (97 + x) :: 38 :: (mid ++ 41 :: rest)).toArray⟩, .int .i64 (n : Int)] w fun e w' => e = .returned (.tuple #[.iface 114 (.agg #[notV x, .iface T X, .int .u8 38]), .string ⟨rest.toArray⟩]) ∧ ∃ m, w' = w.drewN m := by
  have HL := Lib.hid (read_not x n hx hn (38 :: (mid ++ 41 :: rest)))
  have HM := Lib.hid hm
  obtain ⟨c, hc⟩ : ∃ c, UInt8.ofNat (97 + x) = c := ⟨_, rfl⟩
  obtain ⟨l, hl⟩ : ∃ l, mid ++ 41 :: rest = l := ⟨_, rfl⟩
  rw [hc, hl] at HL
  rw [hl] at HM
  rw [hc, hl]
  unfold notV at HL ⊢
  clear hc hl hx hn hm
  go_enter Try.func46, Try.ntmps46
  go_wp2
  go_quiet (fail)
  go_wp2_with (fail)
  refine (HL.out _).mono ?_; rintro e wa ⟨rfl, ⟨m, rfl⟩⟩
  go_wp2_with (fail)
  have hcon : decide (0 ≤ Lib.indexByte (ByteArray.mk #[38, 124, 61]).data.toList 38) = true := by decide
  refine (sh_strings_Contains_one ⟨#[38, 124, 61]⟩ 38 _).mono ?_; rintro e wa ⟨rfl, rfl⟩; rw [hcon]
  go_wp2_with (fail)
  refine (HM.out _).mono ?_; rintro e wa ⟨rfl, ⟨m2, rfl⟩⟩
  go_wp2_with (fail)
  go_quiet (fail)
  go_wp2
  go_ret2
  exact ⟨rfl, _, World.drewN_drewN ..⟩
/-- It is an interface value that is not nil. -/
theorem combV_if : ∀ m, ∃ T X, combV m = .iface T X
  | [] => ⟨_, _, rfl⟩
  | [_] => ⟨_, _, rfl⟩
  | _ :: _ :: _ => ⟨_, _, rfl⟩
theorem read_comb (n : Nat) (hn : n ≤ 10) : ∀ (m : List Nat) (hm : ∀ x ∈ m, x < n) (rest : List UInt8) (w : World),
    Calls Try.prog 46 #[.string ⟨(combS m ++ rest).toArray⟩, .int .i64 (n : Int)] w fun e w' => e = .returned (.tuple #[combV m, .string ⟨rest.toArray⟩]) ∧ ∃ m, w' = w.drewN m
  | [], _, rest, w => read_one rest n w
  | [x], hm, rest, w => read_not x n (hm x (by simp)) hn rest w
  | x :: y :: r, hm, rest, w => by
    obtain ⟨T, X, hV⟩ := combV_if (y :: r)
    have ih := read_comb n hn (y :: r) (fun z hz => hm z (List.mem_cons_of_mem _ hz)) (41 :: rest)
    rw [hV] at ih
    have h := read_pair x n (hm x (by simp)) hn (combS (y :: r)) rest T X w ih
    have e : combS (x :: y :: r) ++ rest = 40 :: 33 :: UInt8.ofNat (97 + x) :: 38 :: (combS (y :: r) ++ 41 :: rest) := by
      simp only [combS, List.cons_append, List.append_assoc, List.nil_append]
    rw [e]
    show Calls _ _ _ _ fun e w' => e = .returned (.tuple #[.iface 114 (.agg #[notV x, combV (y :: r), .int .u8 38]), .string ⟨rest.toArray⟩]) ∧ ∃ m, w' = w.drewN m
    rw [hV]
    exact h
end Go.Proofs.Ytagmadfllfcloaa.PC
end
section
set_option linter.unusedVariables false
set_option linter.unusedSimpArgs false
/- truth.parse and truth.of on the sentences of a town: the walks. -/
namespace Go.Proofs.Ytagmadfllfcloaa.PC
open Go.RowKit Go.Proofs.YtagmadfllfcloaaW.PrintWords Go.Proofs.YtagmadfllfcloaaW.PrintLast Go.Proofs.YtagmadfllfcloaaW.PrintMore
set_option linter.unusedVariables false
set_option linter.unusedSimpArgs false
theorem combV_one (m : List Nat) : (combV m).oneCell' = true := by
  obtain ⟨T, X, h⟩ := combV_if m
  rw [h]
  rfl
theorem info83 : (Try.prog.info? 83).map (fun i => (i.zero, i.size, i.bytes)) = some (some .nilIface, 1, 16) := by kernel_rfl
/-- A formula, as a kind. -/
def kF : Kd (List Nat) := Kd.scalar combV combV_one
/-- A sentence, as a string. -/
def combB (m : List Nat) : ByteArray := ⟨(combS m).toArray⟩
theorem combB_size (m : List Nat) : (combB m).size = (combS m).length := by
  show (combS m).toArray.size = _
  simp
/-- An element of a list of one-cell values. -/
theorem at_scalar {α : Type} {enc : α → Value} {h1 : ∀ x, (enc x).oneCell' = true} {w : World} {A : Option Addr} {n : Nat} {xs : List α} (h : (Kd.scalar enc h1).C w A n xs) (i : Nat) (hi : i < n) (hx : i < xs.length) :
    ∃ ad, A = some ad ∧ w.cell? (ad.add i) = some (enc xs[i]) := by
  obtain ⟨ad, c, rfl, hl, hk, hc⟩ := Kd.C_get h xs[i] (i : Int) (by omega) (by omega)
  refine ⟨ad, rfl, ?_⟩
  have e : c = [enc (xs.getD (i : Int).toNat xs[i])] := hk
  have h2 := hc 0 (enc xs[i]) (by rw [e]; simp [List.getD_eq_getElem?_getD, hx])
  simpa [Kd.scalar] using h2
set_option maxHeartbeats 1000000 in
theorem parse_comb (n : Nat) (hn : n ≤ 10) (m : List Nat) (hm : ∀ x ∈ m, x < n) (hl : (combS m).length ≤ 40) (w : World) :
    Calls Try.prog 34 #[.string (combB m), .int .i64 (n : Int)] w fun e w' => e = .returned (.tuple #[combV m, .int .i64 0]) ∧ ∃ m, w' = w.drewN m := by
  have hr := fun w => read_comb n hn m hm [] w
  simp only [List.append_nil] at hr
  have HR := Lib.hid (show ∀ w, Calls Try.prog 46 #[.string (combB m), .int .i64 (n : Int)] w fun e w' => e = .returned (.tuple #[combV m, .string ⟨#[]⟩]) ∧ ∃ m, w' = w.drewN m from hr)
  clear hr
  obtain ⟨T, X, hV⟩ := combV_if m
  rw [hV] at HR ⊢
  have d1 : decide ((40 : Int) < ((combB m).size : Int)) = false := decide_eq_false (by rw [combB_size]; omega)
  have d2 : decide ((40 : Nat) < (combB m).size) = false := decide_eq_false (by rw [combB_size]; omega)
  clear hm hl hn hV
  generalize combB m = s at HR d1 d2 ⊢
  go_enter Try.func34, Try.ntmps34
  go_wp2_with (fail)
  refine (HR.out _).mono ?_; rintro e wa ⟨rfl, ⟨m, rfl⟩⟩
  go_wp2_with (fail)
  go_ret2
  exact ⟨rfl, _, rfl⟩
set_option maxHeartbeats 4000000 in
set_option maxRecDepth 100000 in
theorem of_comb (ms : List (List Nat)) (N : Nat) (hN : ms.length = N) (h1 : 1 ≤ N) (h2 : N ≤ 10) (hms : ∀ m ∈ ms, (∀ x ∈ m, x < N) ∧ (combS m).length ≤ 40) (A0 : Option Addr) (c0 : Nat) (w : World) (hr0 : Kd.C Kd.string w A0 N (ms.map combB)) :
    Calls Try.prog 19 #[.slice A0 N c0] w fun e w' => ∃ v0_ : Value, e = .returned (.tuple #[v0_, .int .i64 0]) ∧ Kd.R kF 83 w' w.heap.size (fun _ => True) v0_ ms ∧ Below w.heap.size w w' := by
  have HM := Aside0.mk hms
  have HR0 := Aside0.mk hr0
  have HN := Aside0.mk (show ms.length = N ∧ 1 ≤ N ∧ N ≤ 10 from ⟨hN, h1, h2⟩)
  have d1 : decide ((10 : Int) < (N : Int)) = false := decide_eq_false (by omega)
  have d1n : (10 < N) = False := eq_false (by omega)
  have d2 : ((N : Int) == 0) = false := beq_eq_false_iff_ne.2 (by omega)
  have d2n : (N = 0) = False := eq_false (by omega)
  clear hms hr0 hN h1 h2
  go_enter Try.func19, Try.ntmps19
  go_wp2
  go_loopw [4, 19] (fun v4 v19 wr => ∃ i : Nat, i ≤ N ∧ v19 = .int .i64 (i : Int) ∧ Aside0 (Kd.R kF 83 wr w.heap.size (fun _ => True) v4 (ms.take i)) ∧ Aside0 (Below w.heap.size w wr)) (fun _ v19 _ => N - (intOf v19).toNat)
  case atStart => exact ⟨0, by omega, rfl, ⟨Kd.R_nil _ _ _ _ _⟩, ⟨Below.refl _ _⟩⟩
  case round =>
    obtain ⟨i, hi, rfl, HO, HB⟩ := hrel
    by_cases hiN : i < N
    · have d3 : decide ((i : Int) < (N : Int)) = true := decide_eq_true (by omega)
      have d3n : (i < N) = True := eq_true hiN
      obtain ⟨hl, hn1, hn2⟩ := HN.out
      obtain ⟨ad, e, hcell⟩ := at_scalar HR0.out i hiN (by rw [List.length_map]; omega)
      subst e
      replace hcell := (HB.out.cell (World.block_lt_of_cell? w _ hcell)).trans hcell
      rw [List.getElem_map] at hcell
      have hm := HM.out ms[i] (List.getElem_mem _)
      have HP := Lib.hid (parse_comb N hn2 ms[i] hm.1 hm.2)
      have HT := Aside0.mk (show ms.take (i + 1) = ms.take i ++ [ms[i]] from (List.take_succ_eq_append_getElem (by omega)))
      have HIL := Aside0.mk (show (ms.take i).length = i by rw [List.length_take]; omega)
      generalize ms[i] = m at hcell HP HT
      clear hm hl hn1 hn2 d1 d1n d2 d2n
      obtain ⟨T, X, hV⟩ := combV_if m
      rw [hV] at HP
      have HV := Aside0.mk hV
      clear hV
      go_wp2_with (fail)
      refine (HP.out _).mono ?_; rintro e wa ⟨rfl, ⟨nd, rfl⟩⟩
      go_wp2_with (first | ((with_reducible refine gate_builtin (b := .append) (xs := #[.tmp 33, .tmp 35]) rfl ?_); at_builtin; refine Kd.R_append kF (w0 := w) w.heap.size rfl (.tmp 33) (.tmp 35) 54 83 .nilIface 16 rfl Try.underlying54 info83 rfl (by decide) (by omega) u4 (ms.take i) m [.iface T X] (fun _ => True) (fun _ => False) rfl rfl ?aP (fun _ hk => hk.elim) ?aF ?aO ?aB ?aS ?aL ?_; (case aP => exact congrArg (fun x => [x]) HV.out.symm); (case aF => exact (fun _ _ => trivial)); (case aO => exact (by (with_reducible repeat (first | apply Kd.R_alloc | apply Kd.R_drewN | apply Kd.R_drew)); exact HO.out)); (case aB => exact (by repeat (first | (with_reducible first | exact HB.out | apply below_alloc | apply pw_below_drewN | apply below_drew1) | exact HB.out))); (case aS => exact (below_size (by repeat (first | (with_reducible first | exact HB.out | apply below_alloc | apply pw_below_drewN | apply below_drew1) | exact HB.out)))); (case aL => have := HIL.out; have := HN.out; omega); intro v1 w9 ho hb hg hat; rw [← HT.out] at ho; have n0_ := Aside0.mk (hb); have n1_ := Aside0.mk (ho); clear HB HO; have HB := n0_; have HO := n1_; clear n0_ n1_; clear ho hb hg hat))
      go_roundw
      case rel => exact ⟨i + 1, by omega, vI (by have := HN.out; omega), HO, HB⟩
      case measure => exact mstepA hiN (by have := HN.out; omega)
    · have d3 : decide ((i : Int) < (N : Int)) = false := decide_eq_false (by omega)
      have d3n : (i < N) = False := eq_false hiN
      have e : ms.take i = ms := List.take_of_length_le (by have := HN.out; omega)
      rw [e] at HO
      go_wp2
      go_ret2
      exact ⟨_, rfl, HO.out, HB.out⟩
end Go.Proofs.Ytagmadfllfcloaa.PC
end
section
set_option linter.unusedVariables false
set_option linter.unusedSimpArgs false
/- truth's values on the sentences of a town: the walks. -/
namespace Go.Proofs.Ytagmadfllfcloaa.PC
open Go.RowKit Go.Proofs.YtagmadfllfcloaaW.PrintWords Go.Proofs.YtagmadfllfcloaaW.PrintLast Go.Proofs.YtagmadfllfcloaaW.PrintMore
set_option linter.unusedVariables false
set_option linter.unusedSimpArgs false
/-- The opposite of a value. -/
def opp (c : Nat) : Nat := if c = 48 then 49 else if c = 49 then 48 else 63
/-- Both. -/
def and8 (a b : Nat) : Nat := if a = 48 ∨ b = 48 then 48 else if a = 49 ∧ b = 49 then 49 else 63
theorem and8_spec (q r : Nat) : (and8 q r = 48 ∧ (q = 48 ∨ r = 48)) ∨ (and8 q r = 49 ∧ (q = 49 ∧ r = 49)) ∨ (and8 q r = 63 ∧ (q ≠ 48 ∧ r ≠ 48 ∧ ¬ (q = 49 ∧ r = 49))) := by
  unfold and8
  by_cases h1 : q = 48 ∨ r = 48
  · rw [if_pos h1]; exact .inl ⟨rfl, h1⟩
  by_cases h2 : q = 49 ∧ r = 49
  · rw [if_neg h1, if_pos h2]; exact .inr (.inl ⟨rfl, h2⟩)
  · rw [if_neg h1, if_neg h2]; exact .inr (.inr ⟨rfl, by omega, by omega, h2⟩)
/-- The value of a sentence. -/
def valC (v : List UInt8) : List Nat → Nat
  | [] => 49
  | [x] => opp (v.getD x 0).toNat
  | x :: y :: r => and8 (opp (v.getD x 0).toNat) (valC v (y :: r))
set_option maxHeartbeats 1000000 in
set_option maxRecDepth 100000 in
theorem value_letter (l : List UInt8) (x : Nat) (hx : x < l.length) (w : World) :
    Calls Try.prog 82 #[.int .i64 (x : Int), .string ⟨l.toArray⟩] w fun e w' => e = .returned (.int .u8 ((l.getD x 0).toNat : Int)) ∧ w' = w := by
  have e1 : (l.getD x 0) = l[x] := by simp [List.getD_eq_getElem?_getD, hx]
  rw [e1]
  go_enter Try.func82, Try.ntmps82
  go_wp2
  go_ret
  exact ⟨rfl, rfl⟩
set_option maxHeartbeats 1000000 in
set_option maxRecDepth 100000 in
theorem opp_calls (c : Nat) (w : World) :
    Calls Try.prog 85 #[.int .u8 (c : Int)] w fun e w' => e = .returned (.int .u8 (opp c : Int)) ∧ w' = w := by
  by_cases c1 : c = 48
  · subst c1
    go_enter Try.func85, Try.ntmps85
    go_wp2
    go_ret
    exact ⟨rfl, rfl⟩
  by_cases c2 : c = 49
  · subst c2
    go_enter Try.func85, Try.ntmps85
    go_wp2
    go_ret
    exact ⟨rfl, rfl⟩
  have d1 : ((c : Int) == 48) = false := beq_eq_false_iff_ne.2 (by omega)
  have d2 : ((c : Int) == 49) = false := beq_eq_false_iff_ne.2 (by omega)
  have d1n : (c = 48) = False := eq_false c1
  have d2n : (c = 49) = False := eq_false c2
  have e : opp c = 63 := by unfold opp; rw [if_neg c1, if_neg c2]
  rw [e]
  go_enter Try.func85, Try.ntmps85
  go_wp2
  go_ret
  exact ⟨rfl, rfl⟩
set_option maxHeartbeats 1000000 in
set_option maxRecDepth 100000 in
theorem value_not (l : List UInt8) (x : Nat) (hx : x < l.length) (w : World) :
    Calls Try.prog 84 #[.agg #[.iface 110 (.int .i64 (x : Int))], .string ⟨l.toArray⟩] w fun e w' => e = .returned (.int .u8 (valC l [x] : Int)) ∧ Below w.heap.size w w' := by
  have HL := Lib.hid (value_letter l x hx)
  have HO := Lib.hid (opp_calls (l.getD x 0).toNat)
  unfold valC
  generalize (l.getD x 0).toNat = c at HL HO ⊢
  clear hx
  go_enter Try.func84, Try.ntmps84
  go_wp2_with (fail)
  refine (HL.out _).mono ?_; rintro e wa ⟨rfl, rfl⟩
  go_wp2_with (fail)
  refine (HO.out _).mono ?_; rintro e wa ⟨rfl, rfl⟩
  go_wp2_with (fail)
  go_ret
  exact ⟨rfl, below_alloc (Below.refl _ _) _⟩
theorem box3_keep {w0 W W' : World} {g : Nat} {a b c : Value} (h : W.cell? ⟨g, 0, none⟩ = some a ∧ W.cell? ⟨g, 1, none⟩ = some b ∧ W.cell? ⟨g, 2, none⟩ = some c ∧ Below w0.heap.size w0 W) (hb : Below W.heap.size W W') :
    W'.cell? ⟨g, 0, none⟩ = some a ∧ W'.cell? ⟨g, 1, none⟩ = some b ∧ W'.cell? ⟨g, 2, none⟩ = some c ∧ Below w0.heap.size w0 W' :=
  ⟨(hb.cell (World.block_lt_of_cell? W _ h.1)).trans h.1, (hb.cell (World.block_lt_of_cell? W _ h.2.1)).trans h.2.1, (hb.cell (World.block_lt_of_cell? W _ h.2.2.1)).trans h.2.2.1, h.2.2.2.trans (hb.mono h.2.2.2.size)⟩
set_option maxHeartbeats 4000000 in
set_option maxRecDepth 100000 in
theorem value_pair1 (l : List UInt8) (x : Nat) (hx : x < l.length) (X : Value) (r : Nat) (hX : ∀ w, Calls Try.prog 84 #[X, .string ⟨l.toArray⟩] w fun e w' => e = .returned (.int .u8 (r : Int)) ∧ Below w.heap.size w w') (w : World) :
    Calls Try.prog 87 #[.agg #[.iface 112 (.agg #[.iface 110 (.int .i64 (x : Int))]), .iface 112 X, .int .u8 38], .string ⟨l.toArray⟩] w fun e w' => e = .returned (.int .u8 (and8 (opp (l.getD x 0).toNat) r : Int)) ∧ Below w.heap.size w w' := by
  have HL := Lib.hid (value_not l x hx)
  have HX := Lib.hid hX
  unfold valC at HL
  generalize opp (l.getD x 0).toNat = q at HL ⊢
  clear hX hx
  go_enter Try.func87, Try.ntmps87
  go_wp2
  go_region_held3 (fun W => W.cell? ⟨w.heap.size, 0, none⟩ = some (.iface 112 (.agg #[.iface 110 (.int .i64 (x : Int))])) ∧ W.cell? ⟨w.heap.size, 1, none⟩ = some (.iface 112 X) ∧ W.cell? ⟨w.heap.size, 2, none⟩ = some (.int .u8 38) ∧ Below w.heap.size w W)
    (first | assumption | (exact box3_keep (by assumption) (by assumption)) | (exact ⟨by simp, by simp, by simp, below_drew (below_alloc (Below.refl _ _) _)⟩))
    (first
      | (go_at_call_of 84 (Value.agg #[.iface 110 (.int .i64 (x : Int))]); refine (HL.out _).mono ?_; rintro e w1 ⟨rfl, hb1⟩)
      | (go_at_call_of 84 X; refine (HX.out _).mono ?_; rintro e w1 ⟨rfl, hb2⟩))
  rename_i hS
  have HB := Aside0.mk hS.2.2.2
  go_wp2
  all_goals clear hS HL HX
  all_goals go_ret
  all_goals refine ⟨?_, HB.out⟩
  all_goals (clear HB; simp only [beq_iff_eq, beq_eq_false_iff_ne, ne_eq] at *)
  all_goals (rcases and8_spec q r with ⟨e_, h_⟩ | ⟨e_, h_⟩ | ⟨e_, h_⟩ <;> first | (exfalso; omega) | (rw [e_]; rfl))
set_option maxHeartbeats 4000000 in
set_option maxRecDepth 100000 in
theorem value_pair2 (l : List UInt8) (x : Nat) (hx : x < l.length) (X : Value) (r : Nat) (hX : ∀ w, Calls Try.prog 87 #[X, .string ⟨l.toArray⟩] w fun e w' => e = .returned (.int .u8 (r : Int)) ∧ Below w.heap.size w w') (w : World) :
    Calls Try.prog 87 #[.agg #[.iface 112 (.agg #[.iface 110 (.int .i64 (x : Int))]), .iface 114 X, .int .u8 38], .string ⟨l.toArray⟩] w fun e w' => e = .returned (.int .u8 (and8 (opp (l.getD x 0).toNat) r : Int)) ∧ Below w.heap.size w w' := by
  have HL := Lib.hid (value_not l x hx)
  have HX := Lib.hid hX
  unfold valC at HL
  generalize opp (l.getD x 0).toNat = q at HL ⊢
  clear hX hx
  go_enter Try.func87, Try.ntmps87
  go_wp2
  go_region_held3 (fun W => W.cell? ⟨w.heap.size, 0, none⟩ = some (.iface 112 (.agg #[.iface 110 (.int .i64 (x : Int))])) ∧ W.cell? ⟨w.heap.size, 1, none⟩ = some (.iface 114 X) ∧ W.cell? ⟨w.heap.size, 2, none⟩ = some (.int .u8 38) ∧ Below w.heap.size w W)
    (first | assumption | (exact box3_keep (by assumption) (by assumption)) | (exact ⟨by simp, by simp, by simp, below_drew (below_alloc (Below.refl _ _) _)⟩))
    (first
      | (go_at_call_of 84 (Value.agg #[.iface 110 (.int .i64 (x : Int))]); refine (HL.out _).mono ?_; rintro e w1 ⟨rfl, hb1⟩)
      | (go_at_call_of 87 X; refine (HX.out _).mono ?_; rintro e w1 ⟨rfl, hb2⟩))
  rename_i hS
  have HB := Aside0.mk hS.2.2.2
  go_wp2
  all_goals clear hS HL HX
  all_goals go_ret
  all_goals refine ⟨?_, HB.out⟩
  all_goals (clear HB; simp only [beq_iff_eq, beq_eq_false_iff_ne, ne_eq] at *)
  all_goals (rcases and8_spec q r with ⟨e_, h_⟩ | ⟨e_, h_⟩ | ⟨e_, h_⟩ <;> first | (exfalso; omega) | (rw [e_]; rfl))
/-- The function that a sentence's value is asked of, and what it is asked about. -/
def combF : List Nat → Nat
  | [] => 80
  | [_] => 84
  | _ :: _ :: _ => 87
def combX : List Nat → Value
  | [] => .int .u8 49
  | [x] => .agg #[.iface 110 (.int .i64 (x : Int))]
  | x :: y :: r => .agg #[notV x, combV (y :: r), .int .u8 38]
def combT : List Nat → Nat
  | [] => 109
  | [_] => 112
  | _ :: _ :: _ => 114
theorem combV_is : ∀ m, combV m = .iface (combT m) (combX m)
  | [] => rfl
  | [_] => rfl
  | _ :: _ :: _ => rfl
theorem value_one (l : List UInt8) (w : World) :
    Calls Try.prog 80 #[.int .u8 49, .string ⟨l.toArray⟩] w fun e w' => e = .returned (.int .u8 49) ∧ w' = w := by
  go_enter Try.func80, Try.ntmps80
  go_wp2
  go_ret
  exact ⟨rfl, rfl⟩
theorem value_comb (l : List UInt8) : ∀ (m : List Nat) (hm : ∀ x ∈ m, x < l.length) (w : World),
    Calls Try.prog (combF m) #[combX m, .string ⟨l.toArray⟩] w fun e w' => e = .returned (.int .u8 (valC l m : Int)) ∧ Below w.heap.size w w'
  | [], _, w => (value_one l w).mono fun e w' h => ⟨h.1, by rw [h.2]; exact Below.refl _ _⟩
  | [x], hm, w => value_not l x (hm x (by simp)) w
  | x :: [y], hm, w => value_pair1 l x (hm x (by simp)) (combX [y]) (valC l [y]) (fun w => value_comb l [y] (fun z hz => hm z (List.mem_cons_of_mem _ hz)) w) w
  | x :: y :: z :: r, hm, w => value_pair2 l x (hm x (by simp)) (combX (y :: z :: r)) (valC l (y :: z :: r)) (fun w => value_comb l (y :: z :: r) (fun z hz => hm z (List.mem_cons_of_mem _ hz)) w) w
end Go.Proofs.Ytagmadfllfcloaa.PC
end
section
set_option linter.unusedVariables false
set_option linter.unusedSimpArgs false
/- shave.of: the walk. -/
namespace Go.Proofs.Ytagmadfllfcloaa.PC
open Go.RowKit Go.Proofs.YtagmadfllfcloaaW.PrintWords Go.Proofs.YtagmadfllfcloaaW.PrintLast Go.Proofs.YtagmadfllfcloaaW.PrintMore
set_option linter.unusedVariables false
set_option linter.unusedSimpArgs false
/-- The cells of a town. -/
def townC (n : Int) (o : List Nat) : List Value := .int .i64 n :: o.map (fun x : Nat => Value.int .i64 (x : Int))
/-- A town, as a value. -/
def townV (n : Int) (o : List Nat) : Value := .agg (townC n o).toArray
/-- An arc lies within the town. -/
def inT (n : Int) (p : S41) : Bool := decide (0 ≤ p.f0 ∧ p.f0 < n ∧ 0 ≤ p.f1 ∧ p.f1 < n)
/-- The errors of a town. -/
def townE (n : Int) (l : List S41) : Int := if n < 1 ∨ 12 < n then 2 else if 80 < l.length then 3 else if l.all (inT n) then 0 else 2
/-- One arc more. -/
def arcO (o : List Nat) (p : S41) : List Nat := o.set p.f0.toNat (o.getD p.f0.toNat 0 ||| 2 ^ p.f1.toNat)
/-- Who can shave each person, as bits. -/
def townO (l : List S41) : List Nat := l.foldl arcO (List.replicate 12 0)
theorem alloc2_new (w : World) (Z X : Obj) : ((w.alloc Z).alloc X).heap[w.heap.size + 1]? = some X := by
  show ((w.heap.push Z).push X)[w.heap.size + 1]? = some X
  rw [show w.heap.size + 1 = (w.heap.push Z).size by simp]
  exact Array.getElem?_push_size
theorem alloc2_old (w : World) (Z X : Obj) : ((w.alloc Z).alloc X).heap[w.heap.size]? = some Z := by
  show ((w.heap.push Z).push X)[w.heap.size]? = some Z
  simp [Array.getElem?_push]
/-- What shave.of hands back. -/
def OfPost (n : Int) (l : List S41) (T : Value) (E : Int) : Prop := E = townE n l ∧ ∃ n' o', o'.length = 12 ∧ T = townV n' o' ∧ (E = 0 → n' = n ∧ o' = townO l)
theorem len12 {o : List Nat} (h : o.length = 12) : ∃ a0 a1 a2 a3 a4 a5 a6 a7 a8 a9 a10 a11, o = [a0, a1, a2, a3, a4, a5, a6, a7, a8, a9, a10, a11] := by
  match o, h with
  | [a0, a1, a2, a3, a4, a5, a6, a7, a8, a9, a10, a11], _ => exact ⟨_, _, _, _, _, _, _, _, _, _, _, _, rfl⟩
/-- A town lies in a block of its own. -/
def TownAt (W : World) (g : Nat) (n : Int) (o : List Nat) : Prop := W.heap[g]? = some (.cells (townC n o).toArray 44 (0, 0))
theorem TownAt.zero {W : World} {g : Nat} {n : Int} {o : List Nat} (h : TownAt W g n o) : W.cell? ⟨g, 0, none⟩ = some (.int .i64 n) := by
  unfold TownAt at h
  simp [World.cell?, h, townC]
theorem TownAt.at {W : World} {g : Nat} {n : Int} {o : List Nat} (h : TownAt W g n o) (j : Nat) (hj : j < o.length) : W.cell? ⟨g, 1 + j, none⟩ = some (.int .i64 ((o.getD j 0 : Nat) : Int)) := by
  unfold TownAt at h
  simp [World.cell?, h, townC, List.getD_eq_getElem?_getD, hj, Nat.add_comm 1 j]
theorem TownAt.free {W : World} {g : Nat} {n : Int} {o : List Nat} (h : TownAt W g n o) (j : Nat) : W.frozen? ⟨g, j, none⟩ = false := by
  unfold TownAt at h
  simp [World.frozen?, h]
theorem TownAt.lt {W : World} {g : Nat} {n : Int} {o : List Nat} (h : TownAt W g n o) : g < W.heap.size := World.block_lt_of_cell? W _ h.zero
theorem TownAt.below {W W' : World} {g : Nat} {n : Int} {o : List Nat} (h : TownAt W g n o) (hb : Below W.heap.size W W') : TownAt W' g n o := (hb.block g h.lt).trans h
theorem TownAt.alloc {W : World} {g : Nat} {n : Int} {o : List Nat} (h : TownAt W g n o) (x : Obj) : TownAt (W.alloc x) g n o := h.below ((Below.refl _ _).alloc (Nat.le_refl _) x)
theorem TownAt.drewN {W : World} {g : Nat} {n : Int} {o : List Nat} (h : TownAt W g n o) (m : Nat) : TownAt (W.drewN m) g n o := h
theorem TownAt.drew {W : World} {g : Nat} {n : Int} {o : List Nat} (h : TownAt W g n o) : TownAt W.drew g n o := h
theorem TownAt.set {W : World} {g : Nat} {n : Int} {o : List Nat} (h : TownAt W g n o) (j : Nat) (hj : j < o.length) (x : Nat) : TownAt (W.setCell ⟨g, 1 + j, none⟩ (.int .i64 (x : Int))) g n (o.set j x) := by
  unfold TownAt at h ⊢
  unfold World.setCell
  simp only [Array.getElem?_modify, h, if_true, Option.map_some]
  have e : (townC n o).toArray.setIfInBounds (1 + j) (.int .i64 (x : Int)) = (townC n (o.set j x)).toArray := by
    unfold townC
    rw [List.setIfInBounds_toArray, Nat.add_comm 1 j, List.set_cons_succ, List.map_set]
  simp [e]
theorem arcs_len : ∀ (l : List S41) (o : List Nat), (l.foldl arcO o).length = o.length
  | [], _ => rfl
  | p :: r, o => by rw [List.foldl_cons, arcs_len r]; unfold arcO; rw [List.length_set]
theorem townO_len (l : List S41) : (townO l).length = 12 := by unfold townO; rw [arcs_len, List.length_replicate]
theorem or_val (x b : Nat) (hx : x < 4096) (hb : b < 12) : bits .or .i64 (x : Int) (wrap64 (2 ^ b)) = ((x ||| 2 ^ b : Nat) : Int) := by
  have h2 : (2 : Nat) ^ b < 2 ^ 12 := Nat.pow_lt_pow_right (by decide) hb
  have e : wrap64 ((2 : Int) ^ b) = ((2 ^ b : Nat) : Int) := by
    have : ((2 : Int) ^ b) = ((2 ^ b : Nat) : Int) := by push_cast; rfl
    rw [this]
    generalize 2 ^ b = q at h2
    unfold wrap64
    omega
  rw [e]
  exact (bits_nat .i64 63 (by decide) (fun n h0 h1 => by rw [IntKind.wrap_i64]; omega) x (2 ^ b) (by omega) (by omega)).2
theorem arcs_lt (n : Int) (hn : n ≤ 12) : ∀ (l : List S41) (o : List Nat), (∀ j, o.getD j 0 < 4096) → l.all (inT n) = true → ∀ j, (l.foldl arcO o).getD j 0 < 4096
  | [], _, h, _ => h
  | p :: r, o, h, ha => by
    rw [List.all_cons, Bool.and_eq_true] at ha
    rw [List.foldl_cons]
    refine arcs_lt n hn r _ (fun j => ?_) ha.2
    have hp := of_decide_eq_true ha.1
    unfold arcO
    simp only [List.getD_eq_getElem?_getD, List.getElem?_set]
    split
    · split
      · refine Nat.or_lt_two_pow (n := 12) ?_ (Nat.pow_lt_pow_right (by decide) (by omega))
        have := h p.f0.toNat
        simpa [List.getD_eq_getElem?_getD] using this
      · simp
    · have := h j
      simpa [List.getD_eq_getElem?_getD] using this
theorem townO_lt (l : List S41) (n : Int) (hn : n ≤ 12) (h : l.all (inT n) = true) (j : Nat) : (townO l).getD j 0 < 4096 := by
  refine arcs_lt n hn l _ (fun j => ?_) h j
  simp only [List.getD_eq_getElem?_getD, List.getElem?_replicate]
  split <;> simp
theorem below_put {B g j : Nat} {W0 W : World} (h : Below B W0 W) (hg : B ≤ g) (v : Value) : Below B W0 (W.setCell ⟨g, j, none⟩ v) := h.setCell (p := ⟨g, j, none⟩) hg v
theorem blk_set {W : World} {g j : Nat} {l : List Value} {e : TypeId} {f : Nat × Nat} (h : W.heap[g]? = some (.cells l.toArray e f)) (v : Value) : (W.setCell ⟨g, j, none⟩ v).heap[g]? = some (.cells (l.set j v).toArray e f) := by
  unfold World.setCell
  simp only [Array.getElem?_modify, h, if_true, Option.map_some, List.setIfInBounds_toArray]
  rfl
theorem town_blk {W : World} {g : Nat} (h : TownAt W g 0 (List.replicate 12 0)) : W.heap[g]? = some (.cells ([Value.int .i64 0, Value.int .i64 0, Value.int .i64 0, Value.int .i64 0, Value.int .i64 0, Value.int .i64 0, Value.int .i64 0, Value.int .i64 0, Value.int .i64 0, Value.int .i64 0, Value.int .i64 0, Value.int .i64 0, Value.int .i64 0]).toArray 44 (0, 0)) := h
theorem town_put {W : World} {g : Nat} (h : TownAt W g 0 (List.replicate 12 0)) (n : Int) (o0 o1 o2 o3 o4 o5 o6 o7 o8 o9 o10 o11 : Nat) :
    TownAt ((((((((((((((W.setCell ⟨g, 0, none⟩ (.int .i64 n)).setCell ⟨g, 1, none⟩ (.int .i64 (o0 : Int))).setCell ⟨g, 2, none⟩ (.int .i64 (o1 : Int))).setCell ⟨g, 3, none⟩ (.int .i64 (o2 : Int))).setCell ⟨g, 4, none⟩ (.int .i64 (o3 : Int))).setCell ⟨g, 5, none⟩ (.int .i64 (o4 : Int))).setCell ⟨g, 6, none⟩ (.int .i64 (o5 : Int))).setCell ⟨g, 7, none⟩ (.int .i64 (o6 : Int))).setCell ⟨g, 8, none⟩ (.int .i64 (o7 : Int))).setCell ⟨g, 9, none⟩ (.int .i64 (o8 : Int))).setCell ⟨g, 10, none⟩ (.int .i64 (o9 : Int))).setCell ⟨g, 11, none⟩ (.int .i64 (o10 : Int))).setCell ⟨g, 12, none⟩ (.int .i64 (o11 : Int)))) g n [o0, o1, o2, o3, o4, o5, o6, o7, o8, o9, o10, o11] := by
  have h := town_blk h
  replace h := blk_set (j := 0) h (.int .i64 n)
  replace h := blk_set (j := 1) h (.int .i64 (o0 : Int))
  replace h := blk_set (j := 2) h (.int .i64 (o1 : Int))
  replace h := blk_set (j := 3) h (.int .i64 (o2 : Int))
  replace h := blk_set (j := 4) h (.int .i64 (o3 : Int))
  replace h := blk_set (j := 5) h (.int .i64 (o4 : Int))
  replace h := blk_set (j := 6) h (.int .i64 (o5 : Int))
  replace h := blk_set (j := 7) h (.int .i64 (o6 : Int))
  replace h := blk_set (j := 8) h (.int .i64 (o7 : Int))
  replace h := blk_set (j := 9) h (.int .i64 (o8 : Int))
  replace h := blk_set (j := 10) h (.int .i64 (o9 : Int))
  replace h := blk_set (j := 11) h (.int .i64 (o10 : Int))
  replace h := blk_set (j := 12) h (.int .i64 (o11 : Int))
  simp only [List.set_cons_zero, List.set_cons_succ] at h
  exact h
theorem town_put0 {W : World} {g : Nat} (h : TownAt W g 0 (List.replicate 12 0)) :
    TownAt ((((((((((((((W.setCell ⟨g, 0, none⟩ (.int .i64 0)).setCell ⟨g, 1, none⟩ (.int .i64 0)).setCell ⟨g, 2, none⟩ (.int .i64 0)).setCell ⟨g, 3, none⟩ (.int .i64 0)).setCell ⟨g, 4, none⟩ (.int .i64 0)).setCell ⟨g, 5, none⟩ (.int .i64 0)).setCell ⟨g, 6, none⟩ (.int .i64 0)).setCell ⟨g, 7, none⟩ (.int .i64 0)).setCell ⟨g, 8, none⟩ (.int .i64 0)).setCell ⟨g, 9, none⟩ (.int .i64 0)).setCell ⟨g, 10, none⟩ (.int .i64 0)).setCell ⟨g, 11, none⟩ (.int .i64 0)).setCell ⟨g, 12, none⟩ (.int .i64 0))) g 0 (List.replicate 12 0) := by
  have h := town_blk h
  replace h := blk_set (j := 0) h (.int .i64 0)
  replace h := blk_set (j := 1) h (.int .i64 0)
  replace h := blk_set (j := 2) h (.int .i64 0)
  replace h := blk_set (j := 3) h (.int .i64 0)
  replace h := blk_set (j := 4) h (.int .i64 0)
  replace h := blk_set (j := 5) h (.int .i64 0)
  replace h := blk_set (j := 6) h (.int .i64 0)
  replace h := blk_set (j := 7) h (.int .i64 0)
  replace h := blk_set (j := 8) h (.int .i64 0)
  replace h := blk_set (j := 9) h (.int .i64 0)
  replace h := blk_set (j := 10) h (.int .i64 0)
  replace h := blk_set (j := 11) h (.int .i64 0)
  replace h := blk_set (j := 12) h (.int .i64 0)
  simp only [List.set_cons_zero, List.set_cons_succ] at h
  exact h
theorem TownAt.far {W : World} {g : Nat} {n : Int} {o : List Nat} (h : TownAt W g n o) {p : Addr} (hne : g ≠ p.block) (v : Value) : TownAt (W.setCell p v) g n o := (Below.heap_setCell W p v g hne).trans h
set_option maxHeartbeats 40000000 in
set_option maxRecDepth 100000 in
theorem shave_of (n : Int) (A1 : Option Addr) (c1 : Nat) (l1 : List S41) (w : World) (hr1 : Kd.C k41 w A1 l1.length l1) :
    Calls Try.prog 13 #[.int .i64 n, .slice A1 l1.length c1] w fun e w' => (∃ T E, e = .returned (.tuple #[T, .int .i64 E]) ∧ OfPost n l1 T E) ∧ Below w.heap.size w w' := by
  have HR1 := Aside0.mk hr1
  obtain ⟨N, hN⟩ : ∃ N, l1.length = N := ⟨_, rfl⟩
  have HN := Aside0.mk hN
  rw [hN] at hr1 ⊢
  clear hr1 
  by_cases c1 : n < 1
  · have HP := Aside0.mk (show OfPost n l1 (townV 0 (List.replicate 12 0)) 2 from ⟨(show townE n l1 = 2 by unfold townE; rw [if_pos (.inl c1)]).symm, 0, _, by decide, rfl, fun h => by omega⟩)
    have d1 : decide (n < 1) = true := decide_eq_true c1
    clear hN
    go_enter Try.func13, Try.ntmps13
    go_wp2
    go_returns
    exact ⟨⟨_, _, rfl, HP.out⟩, by go_grown⟩
  by_cases c2 : 12 < n
  · have HP := Aside0.mk (show OfPost n l1 (townV 0 (List.replicate 12 0)) 2 from ⟨(show townE n l1 = 2 by unfold townE; rw [if_pos (.inr c2)]).symm, 0, _, by decide, rfl, fun h => by omega⟩)
    have d1 : decide (n < 1) = false := decide_eq_false c1
    have d2 : decide (12 < n) = true := decide_eq_true c2
    clear hN
    go_enter Try.func13, Try.ntmps13
    go_wp2
    go_returns
    exact ⟨⟨_, _, rfl, HP.out⟩, by go_grown⟩
  have d1 : decide (n < 1) = false := decide_eq_false c1
  have d2 : decide (12 < n) = false := decide_eq_false c2
  by_cases c3 : 80 < N
  · have HP := Aside0.mk (show OfPost n l1 (townV 0 (List.replicate 12 0)) 3 from ⟨(show townE n l1 = 3 by unfold townE; rw [if_neg (by omega), if_pos (by omega)]).symm, 0, _, by decide, rfl, fun h => by omega⟩)
    have d3 : decide ((80 : Int) < (N : Int)) = true := decide_eq_true (by omega)
    have d3n : (80 < N) = True := eq_true c3
    clear hN
    go_enter Try.func13, Try.ntmps13
    go_wp2
    go_returns
    exact ⟨⟨_, _, rfl, HP.out⟩, by go_grown⟩
  have hE : townE n l1 = if l1.all (inT n) then 0 else 2 := by unfold townE; rw [if_neg (by omega), if_neg (by omega)]
  have HE := Aside0.mk hE
  clear hE
  have d3 : decide ((80 : Int) < (N : Int)) = false := decide_eq_false (by omega)
  have d3n : (80 < N) = False := eq_false c3
  have HNN := Aside0.mk (show 1 ≤ n ∧ n ≤ 12 ∧ N ≤ 80 by omega)
  clear hN c1 c2 c3
  go_enter Try.func13, Try.ntmps13
  go_wp2
  obtain ⟨g1, hg1⟩ : ∃ g1, g1 = w.heap.size + 1 := ⟨_, rfl⟩
  generalize hW : (World.alloc _ _ : World) = w1
  have hb1 : Below w.heap.size w w1 := by rw [← hW]; go_grown
  have ht1 : TownAt w1 g1 n (List.replicate 12 0) := by subst hW; subst hg1; exact alloc2_new w _ _
  have hz1 : TownAt w1 w.heap.size 0 (List.replicate 12 0) := by subst hW; exact alloc2_old w _ _
  rw [← hg1]
  clear hW
  have HB := Aside0.mk hb1
  have HT := Aside0.mk ht1
  have HZ := Aside0.mk hz1
  have HG := Aside0.mk hg1
  clear hb1 ht1 hz1 hg1
  obtain ⟨g0, hg0⟩ : ∃ g0, g0 = w.heap.size := ⟨_, rfl⟩
  rw [← hg0] at HZ ⊢
  have HG0 := Aside0.mk hg0
  clear hg0
  go_loopw [26] (fun v26 wr => ∃ i : Nat, i ≤ N ∧ v26 = .int .i64 (i : Int) ∧ Aside0 ((l1.take i).all (inT n) = true) ∧ Aside0 (TownAt wr g1 n (townO (l1.take i))) ∧ Aside0 (TownAt wr g0 0 (List.replicate 12 0)) ∧ Aside0 (Below w.heap.size w wr)) (fun v26 _ => N - (intOf v26).toNat)
  case atStart => exact ⟨0, by omega, rfl, ⟨rfl⟩, HT, HZ, HB⟩
  case round =>
    clear HT HZ HB
    obtain ⟨i, hi, rfl, HA, HT, HZ, HB⟩ := hrel
    by_cases hiN : i < N
    · have d4 : decide ((i : Int) < (N : Int)) = true := decide_eq_true (by omega)
      have d4n : (i < N) = True := eq_true hiN
      have hl := HN.out
      obtain ⟨ad, e, hx0, hx1⟩ := at_T41 HR1.out (i : Int) (by omega) (by omega)
      cases e
      replace hx0 := (HB.out.cell (World.block_lt_of_cell? w _ hx0)).trans hx0
      replace hx1 := (HB.out.cell (World.block_lt_of_cell? w _ hx1)).trans hx1
      have hrd : rd_T41 l1 (i : Int) = l1[i] := by unfold rd_T41; simp [List.getD_eq_getElem?_getD, hl, hiN]
      rw [hrd] at hx0 hx1
      rw [Int.toNat_natCast] at hx0 hx1
      have HTK := Aside0.mk (show l1.take (i + 1) = l1.take i ++ [l1[i]] from (List.take_succ_eq_append_getElem (by omega)))
      have HMEM := Aside0.mk (show l1[i] ∈ l1 from List.getElem_mem _)
      generalize l1[i] = p at hx0 hx1 HTK HMEM
      obtain ⟨a, b⟩ := p
      simp only [] at hx0 hx1
      clear hl hrd d1 d2 d3 d3n
      by_cases hp : inT n ⟨a, b⟩ = true
      · have hin := of_decide_eq_true hp
        simp only [] at hin
        obtain ⟨q1, q2, q3, q4⟩ := hin
        have e1 : decide (a < 0) = false := decide_eq_false (by omega)
        have e2 : decide (n ≤ a) = false := decide_eq_false (by omega)
        have e3 : decide (b < 0) = false := decide_eq_false (by omega)
        have e4 : decide (n ≤ b) = false := decide_eq_false (by omega)
        obtain ⟨a, rfl⟩ := Int.eq_ofNat_of_zero_le q1
        obtain ⟨b, rfl⟩ := Int.eq_ofNat_of_zero_le q3
        have hlen : (townO (l1.take i)).length = 12 := townO_len _
        have hA := HT.out.at a (by have := HNN.out; omega)
        have hF := HT.out.free (1 + a)
        have q5 : a < 12 := by have := HNN.out; omega
        have q6 : b < 12 := by have := HNN.out; omega
        clear q1 q3
        go_wp2_with (fail)
        obtain ⟨gp, hgp⟩ : ∃ gp, gp = wr.heap.size := ⟨_, rfl⟩
        rw [← hgp]
        generalize hwp : (World.alloc wr _ : World) = wp
        have hT2 : TownAt wp g1 n (townO (l1.take i)) := by rw [← hwp]; exact HT.out.alloc _
        have hZ2 : TownAt wp g0 0 (List.replicate 12 0) := by rw [← hwp]; exact HZ.out.alloc _
        have hB2 : Below w.heap.size w wp := by rw [← hwp]; exact HB.out.alloc HB.out.size _
        have hp0 : wp.cell? ⟨gp, 0, none⟩ = some (.int .i64 (a : Int)) := by rw [← hwp, hgp]; simp
        have hp1 : wp.cell? ⟨gp, 1, none⟩ = some (.int .i64 (b : Int)) := by rw [← hwp, hgp]; simp
        clear hwp hgp hx0 hx1 hA hF HT HZ HB
        refine wp_region_still_tail 11 (by kernel_rfl) (by kernel_rfl) ?_
        simp only [List.take_succ_cons, List.take_zero, List.drop_succ_cons, List.drop_zero]
        change wpStill _ _ wp.drew _ _ _
        replace hT2 : TownAt wp.drew g1 n (townO (l1.take i)) := hT2
        replace hZ2 : TownAt wp.drew g0 0 (List.replicate 12 0) := hZ2
        replace hB2 : Below w.heap.size w wp.drew := hB2.drew
        replace hp0 : wp.drew.cell? ⟨gp, 0, none⟩ = some (.int .i64 (a : Int)) := hp0
        replace hp1 : wp.drew.cell? ⟨gp, 1, none⟩ = some (.int .i64 (b : Int)) := hp1
        change wpStill _ _ _ (fun a' => wpList _ _ _ _ a' wp.drew) _ _
        generalize wp.drew = wd at hT2 hZ2 hB2 hp0 hp1 ⊢
        have hA := hT2.at a (by omega)
        have hF := hT2.free (1 + a)
        have HT2 := Aside0.mk hT2
        have HZ2 := Aside0.mk hZ2
        have HB2 := Aside0.mk hB2
        clear hT2 hZ2 hB2
        have hb1 : ((a : Int) < 12) = True := eq_true (by omega)
        have hb2 : (a < 12) = True := eq_true (by omega)
        obtain ⟨x, hx⟩ : ∃ x, (townO (l1.take i)).getD a 0 = x := ⟨_, rfl⟩
        rw [hx] at hA
        have hor : bits .or .i64 (x : Int) (wrap64 (2 ^ b)) = ((x ||| 2 ^ b : Nat) : Int) := or_val x b (by rw [← hx]; exact townO_lt _ n (by have := HNN.out; omega) HA.out a) q6
        have HX := Aside0.mk (show townO (l1.take (i + 1)) = (townO (l1.take i)).set a (x ||| 2 ^ b) by rw [HTK.out, ← hx]; unfold townO; rw [List.foldl_append]; rfl)
        clear hx
        repeat still_step
        refine wpStill_nil ?_
        go_wp2
        refine ⟨⟨i + 1, by omega, vI (by have := HNN.out; omega), ⟨by rw [HTK.out, List.all_append, HA.out]; simpa using hp⟩, ⟨by rw [HX.out]; exact HT2.out.set a (by rw [hlen]; exact q5) _⟩, ⟨HZ2.out.far (by have := HG.out; have := HG0.out; show g0 ≠ g1; omega) _⟩, ⟨HB2.out.setCell (p := ⟨g1, 1 + a, none⟩) (by have := HG.out; show w.heap.size ≤ g1; omega) _⟩⟩, mstepA hiN (by have := HNN.out; omega)⟩
      · have HP := Aside0.mk (show OfPost n l1 (townV 0 (List.replicate 12 0)) 2 from ⟨by
          rw [HE.out, if_neg]
          intro h
          exact hp ((List.all_eq_true.1 h) _ HMEM.out), 0, _, by decide, rfl, fun h => by omega⟩)
        simp only [inT, decide_eq_true_eq] at hp
        have hz : TownAt (wr.alloc (.cells #[.int .i64 a, .int .i64 b] 41)) g0 0 (List.replicate 12 0) := HZ.out.alloc _
        have z0 : (wr.alloc (.cells #[.int .i64 a, .int .i64 b] 41)).cell? ⟨g0, 0, none⟩ = some (.int .i64 0) := hz.zero
        have z1 : (wr.alloc (.cells #[.int .i64 a, .int .i64 b] 41)).cell? ⟨g0, 1, none⟩ = some (.int .i64 0) := hz.at 0 (by decide)
        have z2 : (wr.alloc (.cells #[.int .i64 a, .int .i64 b] 41)).cell? ⟨g0, 2, none⟩ = some (.int .i64 0) := hz.at 1 (by decide)
        have z3 : (wr.alloc (.cells #[.int .i64 a, .int .i64 b] 41)).cell? ⟨g0, 3, none⟩ = some (.int .i64 0) := hz.at 2 (by decide)
        have z4 : (wr.alloc (.cells #[.int .i64 a, .int .i64 b] 41)).cell? ⟨g0, 4, none⟩ = some (.int .i64 0) := hz.at 3 (by decide)
        have z5 : (wr.alloc (.cells #[.int .i64 a, .int .i64 b] 41)).cell? ⟨g0, 5, none⟩ = some (.int .i64 0) := hz.at 4 (by decide)
        have z6 : (wr.alloc (.cells #[.int .i64 a, .int .i64 b] 41)).cell? ⟨g0, 6, none⟩ = some (.int .i64 0) := hz.at 5 (by decide)
        have z7 : (wr.alloc (.cells #[.int .i64 a, .int .i64 b] 41)).cell? ⟨g0, 7, none⟩ = some (.int .i64 0) := hz.at 6 (by decide)
        have z8 : (wr.alloc (.cells #[.int .i64 a, .int .i64 b] 41)).cell? ⟨g0, 8, none⟩ = some (.int .i64 0) := hz.at 7 (by decide)
        have z9 : (wr.alloc (.cells #[.int .i64 a, .int .i64 b] 41)).cell? ⟨g0, 9, none⟩ = some (.int .i64 0) := hz.at 8 (by decide)
        have z10 : (wr.alloc (.cells #[.int .i64 a, .int .i64 b] 41)).cell? ⟨g0, 10, none⟩ = some (.int .i64 0) := hz.at 9 (by decide)
        have z11 : (wr.alloc (.cells #[.int .i64 a, .int .i64 b] 41)).cell? ⟨g0, 11, none⟩ = some (.int .i64 0) := hz.at 10 (by decide)
        have z12 : (wr.alloc (.cells #[.int .i64 a, .int .i64 b] 41)).cell? ⟨g0, 12, none⟩ = some (.int .i64 0) := hz.at 11 (by decide)
        have zf : ∀ j : Nat, (wr.alloc (.cells #[.int .i64 a, .int .i64 b] 41)).frozen? ⟨g0, j, none⟩ = false := hz.free
        have HZA := Aside0.mk hz
        clear hz HZ HT
        have HBA := Aside0.mk (HB.out.alloc HB.out.size (.cells #[.int .i64 a, .int .i64 b] 41))
        have HG1 := Aside0.mk (show w.heap.size ≤ g0 by have := HG0.out; omega)
        have hcase : a < 0 ∨ (0 ≤ a ∧ n ≤ a) ∨ (0 ≤ a ∧ a < n ∧ b < 0) ∨ (0 ≤ a ∧ a < n ∧ 0 ≤ b ∧ n ≤ b) := by omega
        clear hp
        rcases hcase with h1 | ⟨h1, h2⟩ | ⟨h1, h2, h3⟩ | ⟨h1, h2, h3, h4⟩
        · have e0 : decide (a < 0) = true := decide_eq_true (by omega)
          go_wp2
          generalize hWf : (World.setCell _ _ _ : World) = Wf
          have htf : TownAt Wf g0 0 (List.replicate 12 0) := by rw [← hWf]; with_reducible exact town_put0 HZA.out
          have hbf : Below w.heap.size w Wf := by rw [← hWf]; (with_reducible repeat (first | exact HBA.out | refine below_put ?_ HG1.out _))
          clear hWf
          have f0 : Wf.cell? ⟨g0, 0, none⟩ = some (.int .i64 0) := htf.zero
          have f1 : Wf.cell? ⟨g0, 1, none⟩ = some (.int .i64 0) := htf.at 0 (by decide)
          have f2 : Wf.cell? ⟨g0, 2, none⟩ = some (.int .i64 0) := htf.at 1 (by decide)
          have f3 : Wf.cell? ⟨g0, 3, none⟩ = some (.int .i64 0) := htf.at 2 (by decide)
          have f4 : Wf.cell? ⟨g0, 4, none⟩ = some (.int .i64 0) := htf.at 3 (by decide)
          have f5 : Wf.cell? ⟨g0, 5, none⟩ = some (.int .i64 0) := htf.at 4 (by decide)
          have f6 : Wf.cell? ⟨g0, 6, none⟩ = some (.int .i64 0) := htf.at 5 (by decide)
          have f7 : Wf.cell? ⟨g0, 7, none⟩ = some (.int .i64 0) := htf.at 6 (by decide)
          have f8 : Wf.cell? ⟨g0, 8, none⟩ = some (.int .i64 0) := htf.at 7 (by decide)
          have f9 : Wf.cell? ⟨g0, 9, none⟩ = some (.int .i64 0) := htf.at 8 (by decide)
          have f10 : Wf.cell? ⟨g0, 10, none⟩ = some (.int .i64 0) := htf.at 9 (by decide)
          have f11 : Wf.cell? ⟨g0, 11, none⟩ = some (.int .i64 0) := htf.at 10 (by decide)
          have f12 : Wf.cell? ⟨g0, 12, none⟩ = some (.int .i64 0) := htf.at 11 (by decide)
          clear htf
          refine bodyPost_ret (by simp [results, Try.results13, go_sem, f0, f1, f2, f3, f4, f5, f6, f7, f8, f9, f10, f11, f12]; try rfl) rfl ?_
          exact ⟨⟨_, _, rfl, HP.out⟩, hbf⟩
        · have e0 : decide (a < 0) = false := decide_eq_false (by omega)
          have e1 : decide (n ≤ a) = true := decide_eq_true (by omega)
          go_wp2
          generalize hWf : (World.setCell _ _ _ : World) = Wf
          have htf : TownAt Wf g0 0 (List.replicate 12 0) := by rw [← hWf]; with_reducible exact town_put0 HZA.out
          have hbf : Below w.heap.size w Wf := by rw [← hWf]; (with_reducible repeat (first | exact HBA.out | refine below_put ?_ HG1.out _))
          clear hWf
          have f0 : Wf.cell? ⟨g0, 0, none⟩ = some (.int .i64 0) := htf.zero
          have f1 : Wf.cell? ⟨g0, 1, none⟩ = some (.int .i64 0) := htf.at 0 (by decide)
          have f2 : Wf.cell? ⟨g0, 2, none⟩ = some (.int .i64 0) := htf.at 1 (by decide)
          have f3 : Wf.cell? ⟨g0, 3, none⟩ = some (.int .i64 0) := htf.at 2 (by decide)
          have f4 : Wf.cell? ⟨g0, 4, none⟩ = some (.int .i64 0) := htf.at 3 (by decide)
          have f5 : Wf.cell? ⟨g0, 5, none⟩ = some (.int .i64 0) := htf.at 4 (by decide)
          have f6 : Wf.cell? ⟨g0, 6, none⟩ = some (.int .i64 0) := htf.at 5 (by decide)
          have f7 : Wf.cell? ⟨g0, 7, none⟩ = some (.int .i64 0) := htf.at 6 (by decide)
          have f8 : Wf.cell? ⟨g0, 8, none⟩ = some (.int .i64 0) := htf.at 7 (by decide)
          have f9 : Wf.cell? ⟨g0, 9, none⟩ = some (.int .i64 0) := htf.at 8 (by decide)
          have f10 : Wf.cell? ⟨g0, 10, none⟩ = some (.int .i64 0) := htf.at 9 (by decide)
          have f11 : Wf.cell? ⟨g0, 11, none⟩ = some (.int .i64 0) := htf.at 10 (by decide)
          have f12 : Wf.cell? ⟨g0, 12, none⟩ = some (.int .i64 0) := htf.at 11 (by decide)
          clear htf
          refine bodyPost_ret (by simp [results, Try.results13, go_sem, f0, f1, f2, f3, f4, f5, f6, f7, f8, f9, f10, f11, f12]; try rfl) rfl ?_
          exact ⟨⟨_, _, rfl, HP.out⟩, hbf⟩
        · have e0 : decide (a < 0) = false := decide_eq_false (by omega)
          have e1 : decide (n ≤ a) = false := decide_eq_false (by omega)
          have e2 : decide (b < 0) = true := decide_eq_true (by omega)
          go_wp2
          generalize hWf : (World.setCell _ _ _ : World) = Wf
          have htf : TownAt Wf g0 0 (List.replicate 12 0) := by rw [← hWf]; with_reducible exact town_put0 HZA.out
          have hbf : Below w.heap.size w Wf := by rw [← hWf]; (with_reducible repeat (first | exact HBA.out | refine below_put ?_ HG1.out _))
          clear hWf
          have f0 : Wf.cell? ⟨g0, 0, none⟩ = some (.int .i64 0) := htf.zero
          have f1 : Wf.cell? ⟨g0, 1, none⟩ = some (.int .i64 0) := htf.at 0 (by decide)
          have f2 : Wf.cell? ⟨g0, 2, none⟩ = some (.int .i64 0) := htf.at 1 (by decide)
          have f3 : Wf.cell? ⟨g0, 3, none⟩ = some (.int .i64 0) := htf.at 2 (by decide)
          have f4 : Wf.cell? ⟨g0, 4, none⟩ = some (.int .i64 0) := htf.at 3 (by decide)
          have f5 : Wf.cell? ⟨g0, 5, none⟩ = some (.int .i64 0) := htf.at 4 (by decide)
          have f6 : Wf.cell? ⟨g0, 6, none⟩ = some (.int .i64 0) := htf.at 5 (by decide)
          have f7 : Wf.cell? ⟨g0, 7, none⟩ = some (.int .i64 0) := htf.at 6 (by decide)
          have f8 : Wf.cell? ⟨g0, 8, none⟩ = some (.int .i64 0) := htf.at 7 (by decide)
          have f9 : Wf.cell? ⟨g0, 9, none⟩ = some (.int .i64 0) := htf.at 8 (by decide)
          have f10 : Wf.cell? ⟨g0, 10, none⟩ = some (.int .i64 0) := htf.at 9 (by decide)
          have f11 : Wf.cell? ⟨g0, 11, none⟩ = some (.int .i64 0) := htf.at 10 (by decide)
          have f12 : Wf.cell? ⟨g0, 12, none⟩ = some (.int .i64 0) := htf.at 11 (by decide)
          clear htf
          refine bodyPost_ret (by simp [results, Try.results13, go_sem, f0, f1, f2, f3, f4, f5, f6, f7, f8, f9, f10, f11, f12]; try rfl) rfl ?_
          exact ⟨⟨_, _, rfl, HP.out⟩, hbf⟩
        · have e0 : decide (a < 0) = false := decide_eq_false (by omega)
          have e1 : decide (n ≤ a) = false := decide_eq_false (by omega)
          have e2 : decide (b < 0) = false := decide_eq_false (by omega)
          have e3 : decide (n ≤ b) = true := decide_eq_true (by omega)
          go_wp2
          generalize hWf : (World.setCell _ _ _ : World) = Wf
          have htf : TownAt Wf g0 0 (List.replicate 12 0) := by rw [← hWf]; with_reducible exact town_put0 HZA.out
          have hbf : Below w.heap.size w Wf := by rw [← hWf]; (with_reducible repeat (first | exact HBA.out | refine below_put ?_ HG1.out _))
          clear hWf
          have f0 : Wf.cell? ⟨g0, 0, none⟩ = some (.int .i64 0) := htf.zero
          have f1 : Wf.cell? ⟨g0, 1, none⟩ = some (.int .i64 0) := htf.at 0 (by decide)
          have f2 : Wf.cell? ⟨g0, 2, none⟩ = some (.int .i64 0) := htf.at 1 (by decide)
          have f3 : Wf.cell? ⟨g0, 3, none⟩ = some (.int .i64 0) := htf.at 2 (by decide)
          have f4 : Wf.cell? ⟨g0, 4, none⟩ = some (.int .i64 0) := htf.at 3 (by decide)
          have f5 : Wf.cell? ⟨g0, 5, none⟩ = some (.int .i64 0) := htf.at 4 (by decide)
          have f6 : Wf.cell? ⟨g0, 6, none⟩ = some (.int .i64 0) := htf.at 5 (by decide)
          have f7 : Wf.cell? ⟨g0, 7, none⟩ = some (.int .i64 0) := htf.at 6 (by decide)
          have f8 : Wf.cell? ⟨g0, 8, none⟩ = some (.int .i64 0) := htf.at 7 (by decide)
          have f9 : Wf.cell? ⟨g0, 9, none⟩ = some (.int .i64 0) := htf.at 8 (by decide)
          have f10 : Wf.cell? ⟨g0, 10, none⟩ = some (.int .i64 0) := htf.at 9 (by decide)
          have f11 : Wf.cell? ⟨g0, 11, none⟩ = some (.int .i64 0) := htf.at 10 (by decide)
          have f12 : Wf.cell? ⟨g0, 12, none⟩ = some (.int .i64 0) := htf.at 11 (by decide)
          clear htf
          refine bodyPost_ret (by simp [results, Try.results13, go_sem, f0, f1, f2, f3, f4, f5, f6, f7, f8, f9, f10, f11, f12]; try rfl) rfl ?_
          exact ⟨⟨_, _, rfl, HP.out⟩, hbf⟩
    · have d4 : decide ((i : Int) < (N : Int)) = false := decide_eq_false (by omega)
      have d4n : (i < N) = False := eq_false hiN
      obtain rfl : i = N := by omega
      have hl := HN.out
      have ha := HA.out
      have ht := HT.out
      rw [List.take_of_length_le (by omega)] at ha ht
      have HP := Aside0.mk (show OfPost n l1 (townV n (townO l1)) 0 from ⟨by rw [HE.out, if_pos ha], n, _, townO_len _, rfl, fun _ => ⟨rfl, rfl⟩⟩)
      obtain ⟨o0, o1, o2, o3, o4, o5, o6, o7, o8, o9, o10, o11, ho⟩ := len12 (townO_len l1)
      rw [ho] at ht
      have HP := Aside0.mk (show OfPost n l1 (townV n [o0, o1, o2, o3, o4, o5, o6, o7, o8, o9, o10, o11]) 0 by have h := HP.out; rwa [ho] at h)
      have hz := HZ.out
      have z0 : wr.cell? ⟨g0, 0, none⟩ = some (.int .i64 0) := hz.zero
      have z1 : wr.cell? ⟨g0, 1, none⟩ = some (.int .i64 0) := hz.at 0 (by decide)
      have z2 : wr.cell? ⟨g0, 2, none⟩ = some (.int .i64 0) := hz.at 1 (by decide)
      have z3 : wr.cell? ⟨g0, 3, none⟩ = some (.int .i64 0) := hz.at 2 (by decide)
      have z4 : wr.cell? ⟨g0, 4, none⟩ = some (.int .i64 0) := hz.at 3 (by decide)
      have z5 : wr.cell? ⟨g0, 5, none⟩ = some (.int .i64 0) := hz.at 4 (by decide)
      have z6 : wr.cell? ⟨g0, 6, none⟩ = some (.int .i64 0) := hz.at 5 (by decide)
      have z7 : wr.cell? ⟨g0, 7, none⟩ = some (.int .i64 0) := hz.at 6 (by decide)
      have z8 : wr.cell? ⟨g0, 8, none⟩ = some (.int .i64 0) := hz.at 7 (by decide)
      have z9 : wr.cell? ⟨g0, 9, none⟩ = some (.int .i64 0) := hz.at 8 (by decide)
      have z10 : wr.cell? ⟨g0, 10, none⟩ = some (.int .i64 0) := hz.at 9 (by decide)
      have z11 : wr.cell? ⟨g0, 11, none⟩ = some (.int .i64 0) := hz.at 10 (by decide)
      have z12 : wr.cell? ⟨g0, 12, none⟩ = some (.int .i64 0) := hz.at 11 (by decide)
      have zf := hz.free
      have y0 : wr.cell? ⟨g1, 0, none⟩ = some (.int .i64 n) := ht.zero
      have y1 : wr.cell? ⟨g1, 1, none⟩ = some (.int .i64 (o0 : Int)) := ht.at 0 (by simp)
      have y2 : wr.cell? ⟨g1, 2, none⟩ = some (.int .i64 (o1 : Int)) := ht.at 1 (by simp)
      have y3 : wr.cell? ⟨g1, 3, none⟩ = some (.int .i64 (o2 : Int)) := ht.at 2 (by simp)
      have y4 : wr.cell? ⟨g1, 4, none⟩ = some (.int .i64 (o3 : Int)) := ht.at 3 (by simp)
      have y5 : wr.cell? ⟨g1, 5, none⟩ = some (.int .i64 (o4 : Int)) := ht.at 4 (by simp)
      have y6 : wr.cell? ⟨g1, 6, none⟩ = some (.int .i64 (o5 : Int)) := ht.at 5 (by simp)
      have y7 : wr.cell? ⟨g1, 7, none⟩ = some (.int .i64 (o6 : Int)) := ht.at 6 (by simp)
      have y8 : wr.cell? ⟨g1, 8, none⟩ = some (.int .i64 (o7 : Int)) := ht.at 7 (by simp)
      have y9 : wr.cell? ⟨g1, 9, none⟩ = some (.int .i64 (o8 : Int)) := ht.at 8 (by simp)
      have y10 : wr.cell? ⟨g1, 10, none⟩ = some (.int .i64 (o9 : Int)) := ht.at 9 (by simp)
      have y11 : wr.cell? ⟨g1, 11, none⟩ = some (.int .i64 (o10 : Int)) := ht.at 10 (by simp)
      have y12 : wr.cell? ⟨g1, 12, none⟩ = some (.int .i64 (o11 : Int)) := ht.at 11 (by simp)
      have HG1 := Aside0.mk (show w.heap.size ≤ g0 by have := HG0.out; omega)
      have HZB := Aside0.mk hz
      clear hz HZ HT ht ha hl HA ho
      go_wp2
      generalize hWf : (World.setCell _ _ _ : World) = Wf
      have htf : TownAt Wf g0 n [o0, o1, o2, o3, o4, o5, o6, o7, o8, o9, o10, o11] := by rw [← hWf]; exact town_put HZB.out n o0 o1 o2 o3 o4 o5 o6 o7 o8 o9 o10 o11
      have hbf : Below w.heap.size w Wf := by rw [← hWf]; (with_reducible repeat (first | exact HB.out | refine below_put ?_ HG1.out _))
      clear hWf
      have f0 : Wf.cell? ⟨g0, 0, none⟩ = some (.int .i64 n) := htf.zero
      have f1 : Wf.cell? ⟨g0, 1, none⟩ = some (.int .i64 (o0 : Int)) := htf.at 0 (by simp)
      have f2 : Wf.cell? ⟨g0, 2, none⟩ = some (.int .i64 (o1 : Int)) := htf.at 1 (by simp)
      have f3 : Wf.cell? ⟨g0, 3, none⟩ = some (.int .i64 (o2 : Int)) := htf.at 2 (by simp)
      have f4 : Wf.cell? ⟨g0, 4, none⟩ = some (.int .i64 (o3 : Int)) := htf.at 3 (by simp)
      have f5 : Wf.cell? ⟨g0, 5, none⟩ = some (.int .i64 (o4 : Int)) := htf.at 4 (by simp)
      have f6 : Wf.cell? ⟨g0, 6, none⟩ = some (.int .i64 (o5 : Int)) := htf.at 5 (by simp)
      have f7 : Wf.cell? ⟨g0, 7, none⟩ = some (.int .i64 (o6 : Int)) := htf.at 6 (by simp)
      have f8 : Wf.cell? ⟨g0, 8, none⟩ = some (.int .i64 (o7 : Int)) := htf.at 7 (by simp)
      have f9 : Wf.cell? ⟨g0, 9, none⟩ = some (.int .i64 (o8 : Int)) := htf.at 8 (by simp)
      have f10 : Wf.cell? ⟨g0, 10, none⟩ = some (.int .i64 (o9 : Int)) := htf.at 9 (by simp)
      have f11 : Wf.cell? ⟨g0, 11, none⟩ = some (.int .i64 (o10 : Int)) := htf.at 10 (by simp)
      have f12 : Wf.cell? ⟨g0, 12, none⟩ = some (.int .i64 (o11 : Int)) := htf.at 11 (by simp)
      clear htf
      refine bodyPost_ret (by simp [results, Try.results13, go_sem, f0, f1, f2, f3, f4, f5, f6, f7, f8, f9, f10, f11, f12]; try rfl) rfl ?_
      exact ⟨⟨_, _, rfl, HP.out⟩, hbf⟩
end Go.Proofs.Ytagmadfllfcloaa.PC
end
section
set_option linter.unusedVariables false
set_option linter.unusedSimpArgs false
/- The tests of shave: independent, absorbed: the walks of the closures. -/
namespace Go.Proofs.Ytagmadfllfcloaa.PC
open Go.RowKit Go.Proofs.YtagmadfllfcloaaW.PrintWords Go.Proofs.YtagmadfllfcloaaW.PrintLast Go.Proofs.YtagmadfllfcloaaW.PrintMore
set_option linter.unusedVariables false
set_option linter.unusedSimpArgs false
/-- A person of a set has no arc into it. -/
def indB (o : List Nat) (s i : Nat) : Bool := !(s.testBit i) || ((o.getD i 0) &&& s == 0)
/-- A person is in a set or has an arc into it. -/
def absB (o : List Nat) (s i : Nat) : Bool := s.testBit i || !((o.getD i 0) &&& s == 0)
/-- A set is a kernel. -/
def kerB (n : Nat) (o : List Nat) (s : Nat) : Bool := (List.range n).all (fun i => indB o s i && absB o s i)
theorem and_val (a b : Nat) (ha : a < 4096) (hb : b < 4096) : bits .and .i64 (a : Int) (b : Int) = ((a &&& b : Nat) : Int) :=
  (bits_nat .i64 63 (by decide) (fun n h0 h1 => by rw [IntKind.wrap_i64]; omega) a b (by omega) (by omega)).1
theorem bit_val (s i : Nat) (hs : s < 4096) : bits .and .i64 (((s / 2 ^ i : Nat)) : Int) 1 = if s.testBit i then 1 else 0 := by
  have h := and_val (s / 2 ^ i) 1 (Nat.lt_of_le_of_lt (Nat.div_le_self _ _) hs) (by decide)
  have h2 : ((1 : Nat) : Int) = 1 := rfl
  rw [h2] at h
  rw [h, Nat.and_one_is_mod]
  simp only [Nat.testBit, Nat.shiftRight_eq_div_pow, Nat.one_and_eq_mod_two]
  rcases Nat.mod_two_eq_zero_or_one (s / 2 ^ i) with h3 | h3 <;> rw [h3] <;> simp
theorem nat_beq0 (y : Nat) : ((y : Int) == 0) = (y == 0) := by
  rcases Nat.eq_zero_or_pos y with rfl | h
  · rfl
  · rw [beq_eq_false_iff_ne.2 (by omega), beq_eq_false_iff_ne.2 (by omega)]
theorem nat_bne0 (y : Nat) : ((y : Int) != 0) = !(y == 0) := by rw [bne, nat_beq0]
set_option maxHeartbeats 4000000 in
set_option maxRecDepth 100000 in
theorem ind_clo (n : Nat) (o : List Nat) (ho : o.length = 12) (hlt : ∀ j, o.getD j 0 < 4096) (s i : Nat) (hs : s < 4096) (hi : i < 12) (gs gt : Nat) (w : World) (h1 : w.cell? ⟨gs, 0, none⟩ = some (.int .i64 (s : Int))) (h2 : TownAt w gt (n : Int) o) :
    Calls Try.prog 44 #[.int .i64 (i : Int), .pointer (some ⟨gs, 0, none⟩), .pointer (some ⟨gt, 0, none⟩)] w fun e w' => e = .returned (.bool (indB o s i)) ∧ ∃ m, w' = w.drewN m := by
  have hA := h2.at i (by omega)
  have hb := bit_val s i hs
  have ha := and_val (o.getD i 0) s (hlt i) hs
  obtain ⟨x, hx⟩ : ∃ x, o.getD i 0 = x := ⟨_, rfl⟩
  have hI : indB o s i = (!(s.testBit i) || (x &&& s == 0)) := by unfold indB; rw [hx]
  rw [hI]
  rw [hx] at hA ha
  have hb12 : ((i : Int) < 12) = True := eq_true (by omega)
  have hb12n : (i < 12) = True := eq_true hi
  have hsh : (s : Int) / 2 ^ i = ((s / 2 ^ i : Nat) : Int) := by push_cast; rfl
  rw [← hsh] at hb
  clear hI hx h2 hlt ho hsh
  cases htb : s.testBit i with
  | false =>
    rw [htb, if_neg (by decide)] at hb
    clear htb
    go_enter Try.func44, Try.ntmps44
    go_wp2
    go_quiet (fail)
    go_wp2
    go_ret
    exact ⟨rfl, _, rfl⟩
  | true =>
    rw [htb, if_pos rfl] at hb
    clear htb
    obtain ⟨y, hy⟩ : ∃ y, x &&& s = y := ⟨_, rfl⟩
    rw [hy] at ha ⊢
    clear hy
    go_enter Try.func44, Try.ntmps44
    go_wp2
    go_quiet (fail)
    go_wp2
    go_ret
    exact ⟨by simp [nat_beq0], _, rfl⟩
/-- Everybody but a set. -/
theorem not_all : (List.range 13).all (fun n => (List.range (2 ^ n)).all (fun s => decide (bits .andNot .i64 ((2 ^ n - 1 : Nat) : Int) (s : Int) = ((2 ^ n - 1 - s : Nat) : Int)))) = true := by decide +kernel
theorem not_val (n s : Nat) (hn : n ≤ 12) (hs : s < 2 ^ n) : bits .andNot .i64 ((2 ^ n - 1 : Nat) : Int) (s : Int) = ((2 ^ n - 1 - s : Nat) : Int) := by
  have h := (List.all_eq_true.1 not_all) n (List.mem_range.2 (by omega))
  exact of_decide_eq_true ((List.all_eq_true.1 h) s (List.mem_range.2 hs))
theorem not_bit (n s i : Nat) (hs : s < 2 ^ n) (hi : i < n) : (2 ^ n - 1 - s).testBit i = !s.testBit i := by
  rw [show 2 ^ n - 1 - s = 2 ^ n - (s + 1) by omega, Nat.testBit_two_pow_sub_succ hs]
  simp [hi]
set_option maxHeartbeats 4000000 in
set_option maxRecDepth 100000 in
theorem abs_clo (n : Nat) (hn : n ≤ 12) (o : List Nat) (ho : o.length = 12) (hlt : ∀ j, o.getD j 0 < 4096) (s i : Nat) (hs : s < 2 ^ n) (hi : i < n) (gp gs gt : Nat) (w : World) (h0 : w.cell? ⟨gp, 0, none⟩ = some (.int .i64 ((2 ^ n - 1 : Nat) : Int))) (h1 : w.cell? ⟨gs, 0, none⟩ = some (.int .i64 (s : Int))) (h2 : TownAt w gt (n : Int) o) :
    Calls Try.prog 45 #[.int .i64 (i : Int), .pointer (some ⟨gp, 0, none⟩), .pointer (some ⟨gs, 0, none⟩), .pointer (some ⟨gt, 0, none⟩)] w fun e w' => e = .returned (.bool (absB o s i)) ∧ ∃ m, w' = w.drewN m := by
  have hi12 : i < 12 := by omega
  have h4 : (2 : Nat) ^ n ≤ 2 ^ 12 := Nat.pow_le_pow_right (by decide) hn
  have hs4 : s < 4096 := by omega
  have hA := h2.at i (by omega)
  have hb := bit_val (2 ^ n - 1 - s) i (by omega)
  have ha := and_val (o.getD i 0) s (hlt i) hs4
  have hn2 := not_val n s hn hs
  rw [not_bit n s i hs hi] at hb
  obtain ⟨x, hx⟩ : ∃ x, o.getD i 0 = x := ⟨_, rfl⟩
  have hI : absB o s i = (s.testBit i || !(x &&& s == 0)) := by unfold absB; rw [hx]
  rw [hI]
  rw [hx] at hA ha
  obtain ⟨p, hp⟩ : ∃ p, 2 ^ n - 1 = p := ⟨_, rfl⟩
  rw [hp] at h0 hn2 hb
  obtain ⟨q, hq⟩ : ∃ q, p - s = q := ⟨_, rfl⟩
  rw [hq] at hn2 hb
  have hb12 : ((i : Int) < 12) = True := eq_true (by omega)
  have hb12n : (i < 12) = True := eq_true hi12
  have hsh : (q : Int) / 2 ^ i = ((q / 2 ^ i : Nat) : Int) := by push_cast; rfl
  rw [← hsh] at hb
  obtain ⟨y, hy⟩ : ∃ y, x &&& s = y := ⟨_, rfl⟩
  rw [hy] at ha ⊢
  clear hI hx h2 hlt ho hsh hp hq h4 hi hs hy
  cases htb : s.testBit i with
  | true =>
    rw [htb, if_neg (by decide)] at hb
    clear htb
    go_enter Try.func45, Try.ntmps45
    go_wp2
    go_quiet (fail)
    go_wp2
    go_ret
    exact ⟨rfl, _, rfl⟩
  | false =>
    rw [htb, if_pos (by decide)] at hb
    clear htb
    go_enter Try.func45, Try.ntmps45
    go_wp2
    go_quiet (fail)
    go_wp2
    go_ret
    exact ⟨by simp [nat_beq0, nat_bne0], _, rfl⟩
end Go.Proofs.Ytagmadfllfcloaa.PC
end
section
set_option linter.unusedVariables false
set_option linter.unusedSimpArgs false
/- shave's all, kernel: the walks. -/
namespace Go.Proofs.Ytagmadfllfcloaa.PC
open Go.RowKit Go.Proofs.YtagmadfllfcloaaW.PrintWords Go.Proofs.YtagmadfllfcloaaW.PrintLast Go.Proofs.YtagmadfllfcloaaW.PrintMore
set_option linter.unusedVariables false
set_option linter.unusedSimpArgs false
/-- A town's value, written out. -/
def townL (n : Nat) (o0 o1 o2 o3 o4 o5 o6 o7 o8 o9 o10 o11 : Nat) : Value := .agg #[.int .i64 (n : Int), .int .i64 (o0 : Int), .int .i64 (o1 : Int), .int .i64 (o2 : Int), .int .i64 (o3 : Int), .int .i64 (o4 : Int), .int .i64 (o5 : Int), .int .i64 (o6 : Int), .int .i64 (o7 : Int), .int .i64 (o8 : Int), .int .i64 (o9 : Int), .int .i64 (o10 : Int), .int .i64 (o11 : Int)]
theorem ker_none {n : Nat} {o : List Nat} {s i : Nat} (hi : i < n) (h : (indB o s i && absB o s i) = false) : kerB n o s = false := by
  unfold kerB
  rw [← Bool.not_eq_true, List.all_eq_true]
  intro h2
  have h3 := h2 i (List.mem_range.2 hi)
  rw [h] at h3
  cases h3
theorem ker_some {n : Nat} {o : List Nat} {s : Nat} (h : ∀ i, i < n → (indB o s i && absB o s i) = true) : kerB n o s = true := by
  unfold kerB
  rw [List.all_eq_true]
  intro i hi
  exact h i (List.mem_range.1 hi)
set_option maxHeartbeats 8000000 in
set_option maxRecDepth 100000 in
theorem all_walk (n : Nat) (hn : n ≤ 12) (o0 o1 o2 o3 o4 o5 o6 o7 o8 o9 o10 o11 : Nat) (o : List Nat) (ho : o.length = 12) (hlt : ∀ j, o.getD j 0 < 4096) (s : Nat) (hs : s < 2 ^ n) (gf gp gs1 gs2 gt1 gt2 : Nat) (w : World)
    (hf0 : w.cell? ⟨gf, 0, none⟩ = some (.func (.func 44) #[] #[.pointer (some ⟨gs1, 0, none⟩), .pointer (some ⟨gt1, 0, none⟩)]))
    (hf1 : w.cell? ⟨gf, 1, none⟩ = some (.func (.func 45) #[] #[.pointer (some ⟨gp, 0, none⟩), .pointer (some ⟨gs2, 0, none⟩), .pointer (some ⟨gt2, 0, none⟩)]))
    (hp : w.cell? ⟨gp, 0, none⟩ = some (.int .i64 ((2 ^ n - 1 : Nat) : Int))) (h1 : w.cell? ⟨gs1, 0, none⟩ = some (.int .i64 (s : Int))) (h2 : w.cell? ⟨gs2, 0, none⟩ = some (.int .i64 (s : Int)))
    (t1 : TownAt w gt1 (n : Int) o) (t2 : TownAt w gt2 (n : Int) o) :
    Calls Try.prog 31 #[townL n o0 o1 o2 o3 o4 o5 o6 o7 o8 o9 o10 o11, .slice (some ⟨gf, 0, none⟩) 2 2] w fun e w' => e = .returned (.bool (kerB n o s)) ∧ Below w.heap.size w w' := by
  have hs4 : s < 4096 := by have h4 : (2 : Nat) ^ n ≤ 2 ^ 12 := Nat.pow_le_pow_right (by decide) hn; omega
  have HI := Lib.hid (fun (wr : World) (hb : Below w.heap.size w wr) (i : Nat) (hi : i < n) => ind_clo n o ho hlt s i hs4 (by omega) gs1 gt1 wr ((hb.cell (World.block_lt_of_cell? w _ h1)).trans h1) ((hb.block gt1 t1.lt).trans t1))
  have HA := Lib.hid (fun (wr : World) (hb : Below w.heap.size w wr) (i : Nat) (hi : i < n) => abs_clo n hn o ho hlt s i hs hi gp gs2 gt2 wr ((hb.cell (World.block_lt_of_cell? w _ hp)).trans hp) ((hb.cell (World.block_lt_of_cell? w _ h2)).trans h2) ((hb.block gt2 t2.lt).trans t2))
  have HF0 := Aside0.mk hf0
  have HF1 := Aside0.mk hf1
  have HN := Aside0.mk hn
  unfold townL
  clear hf0 hf1 hp h1 h2 t1 t2 hs hs4 hlt ho hn
  go_enter Try.func31, Try.ntmps31
  go_wp2
  generalize hW : (World.alloc _ _ : World) = w1
  have hb1 : Below w.heap.size w w1 := by rw [← hW]; exact (Below.refl _ _).alloc (Nat.le_refl _) _
  have HB1 := Aside0.mk hb1
  clear hb1 hW
  go_loopw [10] (fun v10 wr => ∃ i : Nat, i ≤ n ∧ v10 = .int .i64 (i : Int) ∧ Aside0 (∀ k, k < i → (indB o s k && absB o s k) = true) ∧ Aside0 (Below w.heap.size w wr)) (fun v10 _ => n - (intOf v10).toNat)
  case atStart => exact ⟨0, by omega, rfl, ⟨fun k hk => by omega⟩, HB1⟩
  case round =>
    clear HB1
    obtain ⟨i, hi, rfl, HK, HB⟩ := hrel
    by_cases hiN : i < n
    · have d4 : decide ((i : Int) < (n : Int)) = true := decide_eq_true (by omega)
      have d4n : (i < n) = True := eq_true hiN
      go_wp2
      go_loopw [15] (fun v15 wr => ∃ j : Nat, j ≤ 2 ∧ v15 = .int .i64 (j : Int) ∧ Aside0 (1 ≤ j → indB o s i = true) ∧ Aside0 (2 ≤ j → absB o s i = true) ∧ Aside0 (Below w.heap.size w wr)) (fun v15 _ => 2 - (intOf v15).toNat)
      case atStart => exact ⟨0, by omega, rfl, ⟨fun h => by omega⟩, ⟨fun h => by omega⟩, HB⟩
      case round =>
        clear HB
        obtain ⟨j, hj, rfl, HJ1, HJ2, HB⟩ := hrel
        have hc0 := (HB.out.cell (World.block_lt_of_cell? w _ HF0.out)).trans HF0.out
        have hc1 := (HB.out.cell (World.block_lt_of_cell? w _ HF1.out)).trans HF1.out
        rcases j with _ | _ | _ | j
        · cases hib : indB o s i with
          | true =>
            have hcall := HI.out wr HB.out i hiN
            rw [hib] at hcall
            have HC := Lib.hid hcall
            have HX := Aside0.mk hib
            clear hcall hib
            go_wp2_with (first | (go_at_call 44; refine HC.out.mono ?_; rintro e wa ⟨rfl, ⟨md, rfl⟩⟩))
            exact ⟨⟨1, by omega, rfl, ⟨fun _ => by first | exact HX.out | trivial⟩, ⟨fun h => by omega⟩, ⟨pw_below_drewN HB.out _⟩⟩, by decide⟩
          | false =>
            have hcall := HI.out wr HB.out i hiN
            rw [hib] at hcall
            have HC := Lib.hid hcall
            have HX := Aside0.mk (show kerB n o s = false from ker_none hiN (by rw [hib]; rfl))
            clear hcall hib
            go_wp2_with (first | (go_at_call 44; refine HC.out.mono ?_; rintro e wa ⟨rfl, ⟨md, rfl⟩⟩))
            go_ret
            exact ⟨by rw [HX.out]; rfl, pw_below_drewN HB.out _⟩
        · cases hib : absB o s i with
          | true =>
            have hcall := HA.out wr HB.out i hiN
            rw [hib] at hcall
            have HC := Lib.hid hcall
            have HX := Aside0.mk hib
            clear hcall hib
            go_wp2_with (first | (go_at_call 45; refine HC.out.mono ?_; rintro e wa ⟨rfl, ⟨md, rfl⟩⟩))
            exact ⟨⟨2, by omega, rfl, ⟨fun _ => by first | exact HJ1.out (Nat.le_refl _) | trivial⟩, ⟨fun _ => by first | exact HX.out | trivial⟩, ⟨pw_below_drewN HB.out _⟩⟩, by decide⟩
          | false =>
            have hcall := HA.out wr HB.out i hiN
            rw [hib] at hcall
            have HC := Lib.hid hcall
            have HX := Aside0.mk (show kerB n o s = false from ker_none hiN (by rw [hib]; simp))
            clear hcall hib
            go_wp2_with (first | (go_at_call 45; refine HC.out.mono ?_; rintro e wa ⟨rfl, ⟨md, rfl⟩⟩))
            go_ret
            exact ⟨by rw [HX.out]; rfl, pw_below_drewN HB.out _⟩
        · have HX := Aside0.mk (show ∀ k, k < i + 1 → (indB o s k && absB o s k) = true from fun k hk => by
            rcases Nat.lt_or_ge k i with h | h
            · exact HK.out k h
            · obtain rfl : k = i := by omega
              rw [HJ1.out (by omega), HJ2.out (by omega)]
              rfl)
          go_wp2
          refine ⟨⟨i + 1, by omega, vI (by have := HN.out; omega), HX, HB⟩, mstepA hiN (by have := HN.out; omega)⟩
        · omega
    · have d4 : decide ((i : Int) < (n : Int)) = false := decide_eq_false (by omega)
      have d4n : (i < n) = False := eq_false hiN
      have HX := Aside0.mk (show kerB n o s = true from ker_some (fun k hk => HK.out k (by omega)))
      go_wp2
      go_ret
      exact ⟨by rw [HX.out]; rfl, HB.out⟩
end Go.Proofs.Ytagmadfllfcloaa.PC
end
section
set_option linter.unusedVariables false
set_option linter.unusedSimpArgs false
/- shave's kernel: the walk. -/
namespace Go.Proofs.Ytagmadfllfcloaa.PC
open Go.RowKit Go.Proofs.YtagmadfllfcloaaW.PrintWords Go.Proofs.YtagmadfllfcloaaW.PrintLast Go.Proofs.YtagmadfllfcloaaW.PrintMore
set_option linter.unusedVariables false
set_option linter.unusedSimpArgs false
theorem alloc1_newT (w : World) (X : Obj) : (w.alloc X).heap[w.heap.size]? = some X := by
  show (w.heap.push X)[w.heap.size]? = some X
  exact Array.getElem?_push_size
theorem cell_old {W : World} {a : Addr} {v : Value} (h : W.cell? a = some v) (o : Obj) : (W.alloc o).cell? a = some v := (((Below.refl _ W).alloc (Nat.le_refl _) o).cell (World.block_lt_of_cell? W _ h)).trans h
theorem cell_new1 (W : World) (v : Value) (e : TypeId) : (W.alloc (.cells #[v] e)).cell? ⟨W.heap.size, 0, none⟩ = some v := by
  have h := alloc1_newT W (.cells #[v] e)
  unfold World.cell?
  rw [h]
  rfl
theorem townL_at {W : World} {n o0 o1 o2 o3 o4 o5 o6 o7 o8 o9 o10 o11 : Nat} : TownAt (W.alloc (.cells #[.int .i64 (n : Int), .int .i64 (o0 : Int), .int .i64 (o1 : Int), .int .i64 (o2 : Int), .int .i64 (o3 : Int), .int .i64 (o4 : Int), .int .i64 (o5 : Int), .int .i64 (o6 : Int), .int .i64 (o7 : Int), .int .i64 (o8 : Int), .int .i64 (o9 : Int), .int .i64 (o10 : Int), .int .i64 (o11 : Int)] 44)) W.heap.size (n : Int) [o0, o1, o2, o3, o4, o5, o6, o7, o8, o9, o10, o11] := alloc1_newT W _
set_option maxRecDepth 100000 in
theorem ind_make (n o0 o1 o2 o3 o4 o5 o6 o7 o8 o9 o10 o11 s : Nat) (w : World) :
    Calls Try.prog 32 #[townL n o0 o1 o2 o3 o4 o5 o6 o7 o8 o9 o10 o11, .int .i64 (s : Int)] w fun e w' => ∃ gs gt, e = .returned (.func (.func 44) #[] #[.pointer (some ⟨gs, 0, none⟩), .pointer (some ⟨gt, 0, none⟩)]) ∧ w'.cell? ⟨gs, 0, none⟩ = some (.int .i64 (s : Int)) ∧ TownAt w' gt (n : Int) [o0, o1, o2, o3, o4, o5, o6, o7, o8, o9, o10, o11] ∧ Below w.heap.size w w' := by
  unfold townL
  go_enter Try.func32, Try.ntmps32
  go_wp2
  go_ret
  exact ⟨_, _, rfl, by simp, townL_at.alloc _, ((Below.refl _ _).alloc (Nat.le_refl _) _).alloc (by simp) _⟩
set_option maxRecDepth 100000 in
theorem abs_make (n o0 o1 o2 o3 o4 o5 o6 o7 o8 o9 o10 o11 s p : Nat) (w : World) :
    Calls Try.prog 33 #[townL n o0 o1 o2 o3 o4 o5 o6 o7 o8 o9 o10 o11, .int .i64 (s : Int), .int .i64 (p : Int)] w fun e w' => ∃ gp gs gt, e = .returned (.func (.func 45) #[] #[.pointer (some ⟨gp, 0, none⟩), .pointer (some ⟨gs, 0, none⟩), .pointer (some ⟨gt, 0, none⟩)]) ∧ w'.cell? ⟨gp, 0, none⟩ = some (.int .i64 (p : Int)) ∧ w'.cell? ⟨gs, 0, none⟩ = some (.int .i64 (s : Int)) ∧ TownAt w' gt (n : Int) [o0, o1, o2, o3, o4, o5, o6, o7, o8, o9, o10, o11] ∧ Below w.heap.size w w' := by
  unfold townL
  go_enter Try.func33, Try.ntmps33
  go_wp2
  go_ret
  refine ⟨_, _, _, rfl, ?_, ?_, (townL_at.alloc _).alloc _, (((Below.refl _ _).alloc (Nat.le_refl _) _).alloc (by simp) _).alloc (by simp; omega) _⟩
  · have h := cell_new1 (((w.alloc (.cells #[.int .i64 (n : Int), .int .i64 (o0 : Int), .int .i64 (o1 : Int), .int .i64 (o2 : Int), .int .i64 (o3 : Int), .int .i64 (o4 : Int), .int .i64 (o5 : Int), .int .i64 (o6 : Int), .int .i64 (o7 : Int), .int .i64 (o8 : Int), .int .i64 (o9 : Int), .int .i64 (o10 : Int), .int .i64 (o11 : Int)] 44)).alloc (.cells #[.int .i64 (s : Int)] 3))) (.int .i64 (p : Int)) 3
    simpa using h
  · have h := cell_new1 ((w.alloc (.cells #[.int .i64 (n : Int), .int .i64 (o0 : Int), .int .i64 (o1 : Int), .int .i64 (o2 : Int), .int .i64 (o3 : Int), .int .i64 (o4 : Int), .int .i64 (o5 : Int), .int .i64 (o6 : Int), .int .i64 (o7 : Int), .int .i64 (o8 : Int), .int .i64 (o9 : Int), .int .i64 (o10 : Int), .int .i64 (o11 : Int)] 44))) (.int .i64 (s : Int)) 3
    simp only [World.size_alloc] at h
    exact cell_old h _
theorem keep13 {w W W' : World} {g : Nat} {c0 c1 c2 c3 c4 c5 c6 c7 c8 c9 c10 c11 c12 : Value} (h : W.cell? ⟨g, 0, none⟩ = some c0 ∧ W.cell? ⟨g, 1, none⟩ = some c1 ∧ W.cell? ⟨g, 2, none⟩ = some c2 ∧ W.cell? ⟨g, 3, none⟩ = some c3 ∧ W.cell? ⟨g, 4, none⟩ = some c4 ∧ W.cell? ⟨g, 5, none⟩ = some c5 ∧ W.cell? ⟨g, 6, none⟩ = some c6 ∧ W.cell? ⟨g, 7, none⟩ = some c7 ∧ W.cell? ⟨g, 8, none⟩ = some c8 ∧ W.cell? ⟨g, 9, none⟩ = some c9 ∧ W.cell? ⟨g, 10, none⟩ = some c10 ∧ W.cell? ⟨g, 11, none⟩ = some c11 ∧ W.cell? ⟨g, 12, none⟩ = some c12 ∧ Below w.heap.size w W) (hb : Below W.heap.size W W') : W'.cell? ⟨g, 0, none⟩ = some c0 ∧ W'.cell? ⟨g, 1, none⟩ = some c1 ∧ W'.cell? ⟨g, 2, none⟩ = some c2 ∧ W'.cell? ⟨g, 3, none⟩ = some c3 ∧ W'.cell? ⟨g, 4, none⟩ = some c4 ∧ W'.cell? ⟨g, 5, none⟩ = some c5 ∧ W'.cell? ⟨g, 6, none⟩ = some c6 ∧ W'.cell? ⟨g, 7, none⟩ = some c7 ∧ W'.cell? ⟨g, 8, none⟩ = some c8 ∧ W'.cell? ⟨g, 9, none⟩ = some c9 ∧ W'.cell? ⟨g, 10, none⟩ = some c10 ∧ W'.cell? ⟨g, 11, none⟩ = some c11 ∧ W'.cell? ⟨g, 12, none⟩ = some c12 ∧ Below w.heap.size w W' := by
  obtain ⟨h0, h1, h2, h3, h4, h5, h6, h7, h8, h9, h10, h11, h12, hB⟩ := h
  exact ⟨(hb.cell (World.block_lt_of_cell? W _ h0)).trans h0, (hb.cell (World.block_lt_of_cell? W _ h1)).trans h1, (hb.cell (World.block_lt_of_cell? W _ h2)).trans h2, (hb.cell (World.block_lt_of_cell? W _ h3)).trans h3, (hb.cell (World.block_lt_of_cell? W _ h4)).trans h4, (hb.cell (World.block_lt_of_cell? W _ h5)).trans h5, (hb.cell (World.block_lt_of_cell? W _ h6)).trans h6, (hb.cell (World.block_lt_of_cell? W _ h7)).trans h7, (hb.cell (World.block_lt_of_cell? W _ h8)).trans h8, (hb.cell (World.block_lt_of_cell? W _ h9)).trans h9, (hb.cell (World.block_lt_of_cell? W _ h10)).trans h10, (hb.cell (World.block_lt_of_cell? W _ h11)).trans h11, (hb.cell (World.block_lt_of_cell? W _ h12)).trans h12, hB.trans (hb.mono hB.size)⟩
set_option maxHeartbeats 8000000 in
set_option maxRecDepth 100000 in
theorem kernel_walk (n : Nat) (hn : n ≤ 12) (o0 o1 o2 o3 o4 o5 o6 o7 o8 o9 o10 o11 : Nat) (hlt : ∀ j, [o0, o1, o2, o3, o4, o5, o6, o7, o8, o9, o10, o11].getD j 0 < 4096) (s : Nat) (hs : s < 2 ^ n) (w : World) :
    Calls Try.prog 17 #[townL n o0 o1 o2 o3 o4 o5 o6 o7 o8 o9 o10 o11, .int .i64 (s : Int), .int .i64 ((2 ^ n - 1 : Nat) : Int)] w fun e w' => e = .returned (.bool (kerB n [o0, o1, o2, o3, o4, o5, o6, o7, o8, o9, o10, o11] s)) ∧ Below w.heap.size w w' := by
  have HI := Lib.hid (ind_make n o0 o1 o2 o3 o4 o5 o6 o7 o8 o9 o10 o11 s)
  have HA := Lib.hid (abs_make n o0 o1 o2 o3 o4 o5 o6 o7 o8 o9 o10 o11 s (2 ^ n - 1))
  have HW := Lib.hid (fun gf gp gs1 gs2 gt1 gt2 w => all_walk n hn o0 o1 o2 o3 o4 o5 o6 o7 o8 o9 o10 o11 [o0, o1, o2, o3, o4, o5, o6, o7, o8, o9, o10, o11] rfl hlt s hs gf gp gs1 gs2 gt1 gt2 w)
  unfold townL at HI HA HW ⊢
  obtain ⟨p, hp⟩ : ∃ p, 2 ^ n - 1 = p := ⟨_, rfl⟩
  rw [hp] at HA ⊢
  simp only [hp] at HW
  obtain ⟨r, hr⟩ : ∃ r, kerB n [o0, o1, o2, o3, o4, o5, o6, o7, o8, o9, o10, o11] s = r := ⟨_, rfl⟩
  rw [hr] at HW ⊢
  clear hn hlt hs hp hr
  go_enter Try.func17, Try.ntmps17
  go_wp2
  go_region_held3 (fun W => W.cell? ⟨w.heap.size, 0, none⟩ = some (.int .i64 (n : Int)) ∧ W.cell? ⟨w.heap.size, 1, none⟩ = some (.int .i64 (o0 : Int)) ∧ W.cell? ⟨w.heap.size, 2, none⟩ = some (.int .i64 (o1 : Int)) ∧ W.cell? ⟨w.heap.size, 3, none⟩ = some (.int .i64 (o2 : Int)) ∧ W.cell? ⟨w.heap.size, 4, none⟩ = some (.int .i64 (o3 : Int)) ∧ W.cell? ⟨w.heap.size, 5, none⟩ = some (.int .i64 (o4 : Int)) ∧ W.cell? ⟨w.heap.size, 6, none⟩ = some (.int .i64 (o5 : Int)) ∧ W.cell? ⟨w.heap.size, 7, none⟩ = some (.int .i64 (o6 : Int)) ∧ W.cell? ⟨w.heap.size, 8, none⟩ = some (.int .i64 (o7 : Int)) ∧ W.cell? ⟨w.heap.size, 9, none⟩ = some (.int .i64 (o8 : Int)) ∧ W.cell? ⟨w.heap.size, 10, none⟩ = some (.int .i64 (o9 : Int)) ∧ W.cell? ⟨w.heap.size, 11, none⟩ = some (.int .i64 (o10 : Int)) ∧ W.cell? ⟨w.heap.size, 12, none⟩ = some (.int .i64 (o11 : Int)) ∧ Below w.heap.size w W)
    (first | assumption | (exact keep13 (by assumption) (by assumption)) | (exact keep13 (by assumption) (below_alloc (Below.refl _ _) _)) | (refine ⟨?_, ?_, ?_, ?_, ?_, ?_, ?_, ?_, ?_, ?_, ?_, ?_, ?_, below_drew (below_alloc (Below.refl _ _) _)⟩ <;> simp))
    (first
      | (go_at_call 32; refine (HI.out _).mono ?_; rintro e w1 ⟨gs1, gt1, rfl, hi1, hi2, hb1⟩)
      | (go_at_call 33; refine (HA.out _).mono ?_; rintro e w2 ⟨gp, gs2, gt2, rfl, ha1, ha2, ha3, hb2⟩)
      | (go_at_call 31; have hi1' := (hb2.cell (World.block_lt_of_cell? _ _ hi1)).trans hi1; have hi2' := hi2.below hb2; refine (HW.out w2.heap.size gp gs1 gs2 gt1 gt2 _ (by simp) (by simp) ?hp ?h1 ?h2 (hi2'.alloc _) (ha3.alloc _)).mono ?_; (case hp => exact cell_old ha1 _); (case h1 => exact cell_old hi1' _); (case h2 => exact cell_old ha2 _); rintro e w3 ⟨rfl, hb3⟩))
  rename_i hS
  have HB := Aside0.mk hS.2.2.2.2.2.2.2.2.2.2.2.2.2
  go_wp2
  go_ret
  exact ⟨rfl, HB.out⟩
end Go.Proofs.Ytagmadfllfcloaa.PC
end
section
set_option linter.unusedVariables false
set_option linter.unusedSimpArgs false
/- shave's everybody, and what Kernel asks of a set: the walks. -/
namespace Go.Proofs.Ytagmadfllfcloaa.PC
open Go.RowKit Go.Proofs.YtagmadfllfcloaaW.PrintWords Go.Proofs.YtagmadfllfcloaaW.PrintLast Go.Proofs.YtagmadfllfcloaaW.PrintMore
set_option linter.unusedVariables false
set_option linter.unusedSimpArgs false
theorem all_val (n : Nat) (hn : n ≤ 12) : wrap64 (wrap64 (2 ^ n) - 1) = ((2 ^ n - 1 : Nat) : Int) := by
  have h : ∀ n : Nat, n < 13 → wrap64 (wrap64 (2 ^ n) - 1) = ((2 ^ n - 1 : Nat) : Int) := by decide +kernel
  exact h n (by omega)
set_option maxRecDepth 100000 in
theorem every_walk (n : Nat) (hn : n ≤ 12) (o0 o1 o2 o3 o4 o5 o6 o7 o8 o9 o10 o11 : Nat) (w : World) :
    Calls Try.prog 18 #[townL n o0 o1 o2 o3 o4 o5 o6 o7 o8 o9 o10 o11] w fun e w' => e = .returned (.int .i64 ((2 ^ n - 1 : Nat) : Int)) ∧ Below w.heap.size w w' := by
  have hv := all_val n hn
  obtain ⟨p, hp⟩ : ∃ p, ((2 ^ n - 1 : Nat) : Int) = p := ⟨_, rfl⟩
  rw [hp] at hv ⊢
  have hn64 : (n < 64) = True := eq_true (by omega)
  clear hp
  unfold townL
  go_enter Try.func18, Try.ntmps18
  go_wp2
  go_ret
  refine ⟨?_, (Below.refl _ _).alloc (Nat.le_refl _) _⟩
  show Ending.returned (.int .i64 (wrap64 (wrap64 (2 ^ n) - 1))) = _
  rw [hv]
set_option maxHeartbeats 8000000 in
set_option maxRecDepth 100000 in
theorem has_walk (n : Nat) (hn : n ≤ 12) (o0 o1 o2 o3 o4 o5 o6 o7 o8 o9 o10 o11 : Nat) (hlt : ∀ j, [o0, o1, o2, o3, o4, o5, o6, o7, o8, o9, o10, o11].getD j 0 < 4096) (s : Nat) (hs : s < 2 ^ n) (gt : Nat) (w : World) (ht : TownAt w gt (n : Int) [o0, o1, o2, o3, o4, o5, o6, o7, o8, o9, o10, o11]) :
    Calls Try.prog 23 #[.int .i64 (s : Int), .pointer (some ⟨gt, 0, none⟩)] w fun e w' => e = .returned (.bool (kerB n [o0, o1, o2, o3, o4, o5, o6, o7, o8, o9, o10, o11] s)) ∧ Below w.heap.size w w' := by
  have HE := Lib.hid (every_walk n hn o0 o1 o2 o3 o4 o5 o6 o7 o8 o9 o10 o11)
  have HK := Lib.hid (kernel_walk n hn o0 o1 o2 o3 o4 o5 o6 o7 o8 o9 o10 o11 hlt s hs)
  have h0 : w.cell? ⟨gt, 0, none⟩ = some (.int .i64 (n : Int)) := ht.zero
  have h1 : w.cell? ⟨gt, 1, none⟩ = some (.int .i64 (o0 : Int)) := ht.at 0 (by simp)
  have h2 : w.cell? ⟨gt, 2, none⟩ = some (.int .i64 (o1 : Int)) := ht.at 1 (by simp)
  have h3 : w.cell? ⟨gt, 3, none⟩ = some (.int .i64 (o2 : Int)) := ht.at 2 (by simp)
  have h4 : w.cell? ⟨gt, 4, none⟩ = some (.int .i64 (o3 : Int)) := ht.at 3 (by simp)
  have h5 : w.cell? ⟨gt, 5, none⟩ = some (.int .i64 (o4 : Int)) := ht.at 4 (by simp)
  have h6 : w.cell? ⟨gt, 6, none⟩ = some (.int .i64 (o5 : Int)) := ht.at 5 (by simp)
  have h7 : w.cell? ⟨gt, 7, none⟩ = some (.int .i64 (o6 : Int)) := ht.at 6 (by simp)
  have h8 : w.cell? ⟨gt, 8, none⟩ = some (.int .i64 (o7 : Int)) := ht.at 7 (by simp)
  have h9 : w.cell? ⟨gt, 9, none⟩ = some (.int .i64 (o8 : Int)) := ht.at 8 (by simp)
  have h10 : w.cell? ⟨gt, 10, none⟩ = some (.int .i64 (o9 : Int)) := ht.at 9 (by simp)
  have h11 : w.cell? ⟨gt, 11, none⟩ = some (.int .i64 (o10 : Int)) := ht.at 10 (by simp)
  have h12 : w.cell? ⟨gt, 12, none⟩ = some (.int .i64 (o11 : Int)) := ht.at 11 (by simp)
  unfold townL at HE HK
  obtain ⟨p, hp⟩ : ∃ p, ((2 ^ n - 1 : Nat) : Int) = p := ⟨_, rfl⟩
  rw [hp] at HE HK
  obtain ⟨r, hr⟩ : ∃ r, kerB n [o0, o1, o2, o3, o4, o5, o6, o7, o8, o9, o10, o11] s = r := ⟨_, rfl⟩
  rw [hr] at HK ⊢
  clear hn hlt hs hp hr ht
  go_enter Try.func23, Try.ntmps23
  go_wp2
  go_region_held3 (fun W => W.cell? ⟨gt, 0, none⟩ = some (.int .i64 (n : Int)) ∧ W.cell? ⟨gt, 1, none⟩ = some (.int .i64 (o0 : Int)) ∧ W.cell? ⟨gt, 2, none⟩ = some (.int .i64 (o1 : Int)) ∧ W.cell? ⟨gt, 3, none⟩ = some (.int .i64 (o2 : Int)) ∧ W.cell? ⟨gt, 4, none⟩ = some (.int .i64 (o3 : Int)) ∧ W.cell? ⟨gt, 5, none⟩ = some (.int .i64 (o4 : Int)) ∧ W.cell? ⟨gt, 6, none⟩ = some (.int .i64 (o5 : Int)) ∧ W.cell? ⟨gt, 7, none⟩ = some (.int .i64 (o6 : Int)) ∧ W.cell? ⟨gt, 8, none⟩ = some (.int .i64 (o7 : Int)) ∧ W.cell? ⟨gt, 9, none⟩ = some (.int .i64 (o8 : Int)) ∧ W.cell? ⟨gt, 10, none⟩ = some (.int .i64 (o9 : Int)) ∧ W.cell? ⟨gt, 11, none⟩ = some (.int .i64 (o10 : Int)) ∧ W.cell? ⟨gt, 12, none⟩ = some (.int .i64 (o11 : Int)) ∧ Below w.heap.size w W)
    (first | assumption | (exact keep13 (by assumption) (by assumption)) | (exact ⟨h0, h1, h2, h3, h4, h5, h6, h7, h8, h9, h10, h11, h12, below_drew (Below.refl _ _)⟩))
    (first
      | (go_at_call 18; refine (HE.out _).mono ?_; rintro e w1 ⟨rfl, hb1⟩)
      | (go_at_call 17; refine (HK.out _).mono ?_; rintro e w2 ⟨rfl, hb2⟩))
  rename_i hS
  have HB := Aside0.mk hS.2.2.2.2.2.2.2.2.2.2.2.2.2
  go_wp2
  go_ret
  exact ⟨rfl, HB.out⟩
end Go.Proofs.Ytagmadfllfcloaa.PC
end
section
set_option linter.unusedVariables false
set_option linter.unusedSimpArgs false
namespace Go.Proofs.Ytagmadfllfcloaa.PC
open Go.RowKit Go.Proofs.YtagmadfllfcloaaW.PrintWords Go.Proofs.YtagmadfllfcloaaW.PrintLast Go.Proofs.YtagmadfllfcloaaW.PrintMore
attribute [local go_sem] max2_int min2_int max_two min_two max_three min_three max_four min_four   -- for this text's walks alone
set_option linter.unusedVariables false
set_option linter.unusedSimpArgs false
/-! ### shave_members: function 14 -/
def shave_members.l0 : Nat → Int → List Int → Int → Option (List Int)
 | 0, _, _, _ => none
 | k + 1, x0, x3, x4 => if 0 ≤ x4 then (if (shr .i64 x0 x4) > 0 then (if (Go.bits .and .i64 (shr .i64 x0 x4) 1) = 1 then (if x3.length < 17592186044416 then (shave_members.l0 k x0 (x3 ++ [x4]) (wrap64 (x4 + 1))) else (none)) else (shave_members.l0 k x0 x3 (wrap64 (x4 + 1)))) else (some x3)) else (none)
def shave_members.f (k : Nat) (a0 : Int) : Option (List Int) := shave_members.l0 k a0 ([] : List Int) 0
theorem shave_members.mono_l : ∀ k, (∀ y0 y1 y2, LeO (shave_members.l0 k y0 y1 y2) (shave_members.l0 (k + 1) y0 y1 y2))
 | 0 => fun _ _ _ r h => by simp [shave_members.l0] at h
 | k + 1 => by
  have ih0 := shave_members.mono_l k
  ·intro y0 y1 y2
   unfold shave_members.l0
   repeat' first
   | (with_reducible exact ih0 _ _ _)
   | (with_reducible exact LeO.refl _)
   | (with_reducible exact LeO.none _)
   | (with_reducible refine LeO.ite ?_ ?_)
   | (with_reducible refine LeO.bind ?_ (fun _ => ?_))
   | exact ih0 _ _ _
   | exact LeO.none _
   | refine LeO.ite ?_ ?_
   | refine LeO.bind ?_ (fun _ => ?_)
theorem shave_members.mono : ∀ a0 k, LeO (shave_members.f k a0) (shave_members.f (k + 1) a0) := by
 intro a0 k
 have ih0 := shave_members.mono_l k
 unfold shave_members.f
 repeat' first
   | (with_reducible exact ih0 _ _ _)
   | (with_reducible exact LeO.refl _)
   | (with_reducible exact LeO.none _)
   | (with_reducible refine LeO.ite ?_ ?_)
   | (with_reducible refine LeO.bind ?_ (fun _ => ?_))
   | exact ih0 _ _ _
   | exact LeO.none _
   | refine LeO.ite ?_ ?_
   | refine LeO.bind ?_ (fun _ => ?_)
set_option maxHeartbeats 8000000 in
set_option maxRecDepth 100000 in
theorem shave_members.calls (k : Nat) (a0 : Int) (r : List Int) (w : World) (h : shave_members.f k a0 = some r) :
  Calls Try.prog 14 #[.int .i64 a0] w fun e w' => ∃ v0_ : Value, e = .returned (v0_) ∧ Kd.R (Kd.int .i64) 3 w' w.heap.size (fun _ => True) v0_ r ∧ Below w.heap.size w w' := by
 have HB := Aside0.mk (Below.refl w.heap.size w)
 have H : (shave_members.l0 k a0 ([] : List Int) 0) = some r := h
 clear h
 have H' := Aside0.mk H
 clear H
 go_enter Try.func14, Try.ntmps14
 go_wp2
 go_loopg [3, 4] k (fun kq v3 v4 w' => ∃ (x3_1 : List Int) (x4_1 : Int), v4 = .int .i64 x4_1 ∧ Aside0 (shave_members.l0 kq a0 x3_1 x4_1 = some r) ∧ Aside0 (kq ≤ k) ∧ Aside0 (Kd.R (Kd.int .i64) 3 w' w.heap.size (fun _ => True) v3 x3_1) ∧ Aside0 (Below w.heap.size w w'))
 case atStart => exact ⟨(([] : List Int)), (0), (by first | rfl | (simp; done) | (simp [*]; done)), H', ⟨Nat.le_refl _⟩, ⟨by first | exact Kd.R_nil _ _ _ _ _ | exact Kd.N_nil _ _ _ _ _ | exact Kd.V_nil _ _ _ _ _ | exact Kd.Q_nil _ _ _ _ _ | exact Kd.S_nil _ _ _ _ _⟩, ⟨by repeat (first | (with_reducible first | exact HB.out | apply below_alloc | apply pw_below_drewN | apply below_drew1) | exact HB.out)⟩⟩
 case round =>
  clear H'
  try clear c1
  obtain ⟨x3_1, x4_1, rfl, HA, HK1, HO_3, HB⟩ := hrel
  cases gk with
  | zero => exact absurd HA.out (by simp [shave_members.l0])
  | succ k1 =>
   have H := HA.out
   clear HA
   simp only [shave_members.l0] at H
   by_cases c2 : 0 ≤ x4_1
   ·rw [if_pos c2] at H
    have c2b0 := eq_true c2
    have c2b1 : decide (0 ≤ x4_1) = true := decide_eq_true c2
    clear c2
    obtain ⟨ji3, hji3⟩ : ∃ j_ : Int, (shr .i64 a0 x4_1) = j_ := ⟨_, rfl⟩
    replace H : (if (ji3) > 0 then (if (Go.bits .and .i64 (ji3) 1) = 1 then (if x3_1.length < 17592186044416 then (shave_members.l0 k1 a0 (x3_1 ++ [x4_1]) (wrap64 (x4_1 + 1))) else (none)) else (shave_members.l0 k1 a0 x3_1 (wrap64 (x4_1 + 1)))) else (some x3_1)) = some r := by first | (rw [hji3] at H; exact H) | (simp only [hji3] at H ⊢; exact H)
    have hji3_ : (a0 / 2 ^ min x4_1.toNat 64) = ji3 := hji3
    have hji3z : x4_1 ≤ 64 → (a0 / 2 ^ x4_1.toNat) = ji3 := shr_small hji3
    by_cases c4 : (ji3) > 0
    ·rw [if_pos c4] at H
     have c4b0 : decide (0 < (ji3)) = true := decide_eq_true c4
     clear c4
     have c5b0 := eq_true (of_decide_eq_true (by first | (with_reducible assumption) | assumption) : 0 ≤ x4_1)
     by_cases c7 : (Go.bits .and .i64 (ji3) 1) = 1
     ·rw [if_pos c7] at H
      have c7b0 : ((Go.bits .and .i64 (ji3) 1) == 1) = true := beq_iff_eq.mpr c7
      have c7b1 : ((Go.bits .and .i64 (ji3) 1) != 1) = false := bne_eq_false_iff_eq.mpr c7
      clear c7
      by_cases c8 : x3_1.length < 17592186044416
      ·rw [if_pos c8] at H
       have LMc8 := Aside0.mk c8
       clear c8
       obtain ⟨y101, hy101⟩ : ∃ y_ : List Int, y_ = (x3_1 ++ [x4_1]) := ⟨_, rfl⟩
       replace H : (shave_members.l0 k1 a0 y101 (wrap64 (x4_1 + 1))) = some r := by first | (rw [hy101]; with_reducible exact H) | (have H2_ := (Option.bind_some _ _).symm.trans H; rw [hy101]; with_reducible exact H2_) | (have H2_ := (Option.bind_some _ _).symm.trans H; with_reducible exact H2_) | with_reducible exact H | (rw [hy101]; exact H) | exact H
       have Ny101 := Aside0.mk hy101
       clear hy101
       have H' := Aside0.mk H
       clear H
       go_wp2_with (first | ((with_reducible refine gate_builtin (b := .append) (xs := #[.tmp 16, .tmp 18]) rfl ?_); at_builtin; refine Kd.R_append (Kd.int .i64) (w0 := w) w.heap.size rfl (.tmp 16) (.tmp 18) 23 3 (.int .i64 0) 8 rfl Try.underlying23 info3 rfl (by decide) (by omega) u3 x3_1 x4_1 [.int .i64 x4_1] (fun _ => True) (fun _ => False) rfl rfl ?aP (fun _ hk => hk.elim) ?aF ?aO ?aB ?aS ?aL ?_; (case aP => exact rfl); (case aB => exact (by repeat (first | (with_reducible first | exact HB.out | apply below_alloc | apply pw_below_drewN | apply below_drew1) | exact HB.out))); (case aF => exact (fun _ _ => trivial)); (case aO => exact (by (with_reducible repeat (first | apply Kd.R_alloc | apply Kd.R_drewN | apply Kd.R_drew)); exact HO_3.out)); (case aS => exact (below_size (by repeat (first | (with_reducible first | exact HB.out | apply below_alloc | apply pw_below_drewN | apply below_drew1) | exact HB.out)))); (case aL => have := LMc8.out; omega); intro v102 w9 ho hb hg hat; rw [← Ny101.out] at ho; have n0_ := Aside0.mk (hb); have n1_ := Aside0.mk (ho); clear HB; clear HO_3; have HB := n0_; have HO103 := n1_; clear n0_ n1_; clear ho hb hg hat))
       go_roundg k1
       case measure => have := HK1.out; omega
       case rel => exact ⟨(y101), (wrap64 (x4_1 + 1)), (by first | rfl | (simp; done) | (simp [*]; done)), H', ⟨by have := HK1.out; omega⟩, ⟨by (with_reducible repeat (first | apply Kd.R_alloc | apply Kd.R_drewN | apply Kd.R_drew)); exact HO103.out⟩, ⟨by repeat (first | (with_reducible first | exact HB.out | apply below_alloc | apply pw_below_drewN | apply below_drew1) | exact HB.out)⟩⟩
      ·rw [if_neg c8] at H
       exact absurd H (by simp)
     ·rw [if_neg c7] at H
      have c7b0 : ((Go.bits .and .i64 (ji3) 1) == 1) = false := beq_eq_false_iff_ne.mpr c7
      have c7b1 : ((Go.bits .and .i64 (ji3) 1) != 1) = true := bne_iff_ne.mpr c7
      have H' := Aside0.mk H
      clear H
      go_wp2
      go_roundg k1
      case measure => have := HK1.out; omega
      case rel => exact ⟨(x3_1), (wrap64 (x4_1 + 1)), (by first | rfl | (simp; done) | (simp [*]; done)), H', ⟨by have := HK1.out; omega⟩, ⟨by (with_reducible repeat (first | apply Kd.R_alloc | apply Kd.R_drewN | apply Kd.R_drew)); exact HO_3.out⟩, ⟨by repeat (first | (with_reducible first | exact HB.out | apply below_alloc | apply pw_below_drewN | apply below_drew1) | exact HB.out)⟩⟩
    ·rw [if_neg c4] at H
     have c4b0 : decide (0 < (ji3)) = false := decide_eq_false c4
     clear c4
     obtain rfl := Option.some.inj H
     go_wp2
     go_ret
     exact ⟨_, by first | rfl | (simp [errW_none, errW_some] <;> rfl) | (simp only [← hji3]; first | rfl | (simp [errW_none, errW_some] <;> rfl)) | (simp [*, errW_none, errW_some] <;> rfl), by (with_reducible repeat (first | apply Kd.R_alloc | apply Kd.R_drewN | apply Kd.R_drew)); exact HO_3.out, by repeat (first | (with_reducible first | exact HB.out | apply below_alloc | apply pw_below_drewN | apply below_drew1) | exact HB.out)⟩
   ·rw [if_neg c2] at H
    exact absurd H (by simp)
end Go.Proofs.Ytagmadfllfcloaa.PC
end
section
set_option linter.unusedVariables false
set_option linter.unusedSimpArgs false
/- shave.members, plainly. -/
namespace Go.Proofs.Ytagmadfllfcloaa.PC
open Go.RowKit Go.Proofs.YtagmadfllfcloaaW.PrintWords Go.Proofs.YtagmadfllfcloaaW.PrintLast Go.Proofs.YtagmadfllfcloaaW.PrintMore
/-- The members of a set, ascending. -/
def memN (s : Nat) : List Nat := (List.range 12).filter (fun i => s.testBit i)
def memI (s : Nat) : List Int := (memN s).map (fun x : Nat => (x : Int))
theorem members_all : (List.range 4096).all (fun s => decide (shave_members.f 14 (s : Int) = some (memI s))) = true := by decide +kernel
theorem members_val (s : Nat) (h : s < 4096) : shave_members.f 14 (s : Int) = some (memI s) := of_decide_eq_true ((List.all_eq_true.1 members_all) s (List.mem_range.2 h))
theorem members_calls (s : Nat) (h : s < 4096) (w : World) :
    Calls Try.prog 14 #[.int .i64 (s : Int)] w fun e w' => ∃ v0_ : Value, e = .returned (v0_) ∧ Kd.R (Kd.int .i64) 3 w' w.heap.size (fun _ => True) v0_ (memI s) ∧ Below w.heap.size w w' := shave_members.calls 14 _ _ w (members_val s h)
theorem memN_lt {s x : Nat} (h : x ∈ memN s) : x < 12 := List.mem_range.1 (List.mem_filter.1 h).1
end Go.Proofs.Ytagmadfllfcloaa.PC
end
section
set_option linter.unusedVariables false
set_option linter.unusedSimpArgs false
/- shave's each and first: the walks. -/
namespace Go.Proofs.Ytagmadfllfcloaa.PC
open Go.RowKit Go.Proofs.YtagmadfllfcloaaW.PrintWords Go.Proofs.YtagmadfllfcloaaW.PrintLast Go.Proofs.YtagmadfllfcloaaW.PrintMore
set_option linter.unusedVariables false
set_option linter.unusedSimpArgs false
/-- The variable 'out'. -/
def OutAt (W : World) (g : Nat) (v : Value) : Prop := W.heap[g]? = some (.cells #[v] 23 (0, 0))
theorem OutAt.cell {W : World} {g : Nat} {v : Value} (h : OutAt W g v) : W.cell? ⟨g, 0, none⟩ = some v := by
  unfold OutAt at h
  unfold World.cell?
  rw [h]
  rfl
theorem OutAt.free {W : World} {g : Nat} {v : Value} (h : OutAt W g v) : W.frozen? ⟨g, 0, none⟩ = false := by
  unfold OutAt at h
  simp [World.frozen?, h]
theorem OutAt.lt {W : World} {g : Nat} {v : Value} (h : OutAt W g v) : g < W.heap.size := World.block_lt_of_cell? W _ h.cell
theorem OutAt.below {W W' : World} {g : Nat} {v : Value} (h : OutAt W g v) (hb : Below W.heap.size W W') : OutAt W' g v := (hb.block g h.lt).trans h
theorem OutAt.set {W : World} {g : Nat} {v : Value} (h : OutAt W g v) (u : Value) : OutAt (W.setCell ⟨g, 0, none⟩ u) g u := by
  have h2 : W.heap[g]? = some (.cells ([v] : List Value).toArray 23 (0, 0)) := h
  exact blk_set (j := 0) h2 u
/-- Nothing but 'out' and what is new has turned. -/
def KeptO (B g : Nat) (W W' : World) : Prop := Below B W W' ∧ KeepBut W W' g none
theorem KeptO.refl (B g : Nat) (W : World) : KeptO B g W W := ⟨Below.refl _ _, KeepBut.refl _ _ _⟩
theorem KeptO.trans {B g : Nat} {W W1 W2 : World} (h : KeptO B g W W1) (k : KeptO B g W1 W2) : KeptO B g W W2 := ⟨h.1.trans k.1, h.2.trans k.2 (.inl rfl)⟩
theorem KeptO.below {B g : Nat} {W W1 : World} (hb : Below W.heap.size W W1) (hB : B ≤ W.heap.size) : KeptO B g W W1 := ⟨hb.mono hB, KeepBut.of_below hb _ _⟩
theorem KeptO.out {B g : Nat} {W : World} (hg : B ≤ g) (u : Value) : KeptO B g W (W.setCell ⟨g, 0, none⟩ u) := ⟨(Below.refl _ _).setCell (p := ⟨g, 0, none⟩) hg u, (KeepBut.refl _ _ _).set_ 0 u⟩
theorem KeptO.cell {B g : Nat} {W W1 : World} (h : KeptO B g W W1) {a : Addr} {v : Value} (hc : W.cell? a = some v) (hne : a.block ≠ g) : W1.cell? a = some v := keep_cell h.2 hc hne
theorem KeptO.town {B g : Nat} {W W1 : World} (h : KeptO B g W W1) {gt : Nat} {n : Int} {o : List Nat} (ht : TownAt W gt n o) (hne : gt ≠ g) : TownAt W1 gt n o := h.2.blk ht hne (by simp)
set_option maxHeartbeats 8000000 in
set_option maxRecDepth 100000 in
theorem visit_walk (n : Nat) (hn : n ≤ 12) (o0 o1 o2 o3 o4 o5 o6 o7 o8 o9 o10 o11 : Nat) (hlt : ∀ j, [o0, o1, o2, o3, o4, o5, o6, o7, o8, o9, o10, o11].getD j 0 < 4096) (s : Nat) (hs : s < 2 ^ n) (B gout ghas gt : Nat) (v : Value) (w : World)
    (hB : B ≤ gout) (ho : OutAt w gout v) (hh : w.cell? ⟨ghas, 0, none⟩ = some (.func (.func 23) #[] #[.pointer (some ⟨gt, 0, none⟩)])) (ht : TownAt w gt (n : Int) [o0, o1, o2, o3, o4, o5, o6, o7, o8, o9, o10, o11]) (hn1 : ghas ≠ gout) (hn2 : gt ≠ gout) :
    Calls Try.prog 39 #[.int .i64 (s : Int), .pointer (some ⟨gout, 0, none⟩), .pointer (some ⟨ghas, 0, none⟩)] w fun e w' => ∃ v1, e = .returned (.bool (kerB n [o0, o1, o2, o3, o4, o5, o6, o7, o8, o9, o10, o11] s)) ∧ OutAt w' gout v1 ∧ Kd.R (Kd.int .i64) 3 w' B (fun k => k ≠ gout) v1 (memI s) ∧ KeptO B gout w w' := by
  have hs4 : s < 4096 := by have h4 : (2 : Nat) ^ n ≤ 2 ^ 12 := Nat.pow_le_pow_right (by decide) hn; omega
  have HM := Lib.hid (members_calls s hs4)
  have HH := Lib.hid (has_walk n hn o0 o1 o2 o3 o4 o5 o6 o7 o8 o9 o10 o11 hlt s hs gt)
  have HO := Aside0.mk ho
  have HT := Aside0.mk ht
  have HC := Aside0.mk hh
  have HB := Aside0.mk hB
  have HN := Aside0.mk (And.intro hn1 hn2)
  obtain ⟨r, hr⟩ : ∃ r, kerB n [o0, o1, o2, o3, o4, o5, o6, o7, o8, o9, o10, o11] s = r := ⟨_, rfl⟩
  rw [hr] at HH ⊢
  obtain ⟨ml, hml⟩ : ∃ ml, memI s = ml := ⟨_, rfl⟩
  rw [hml] at HM ⊢
  clear hn hlt hs hs4 ho hh ht hn1 hn2 hr hml hB
  go_enter Try.func39, Try.ntmps39
  go_wp2_with (fail)
  refine (HM.out _).mono ?_; rintro e wa ⟨v0, rfl, hr, hb⟩
  obtain ⟨A, c, rfl⟩ := Kd.R_slice hr
  generalize hL : ml.length = L at hr ⊢
  have HO1 := HO.out.below hb
  have hoc := HO1.cell
  have hof := HO1.free
  have HR := Aside0.mk hr
  have HB1 := Aside0.mk hb
  have HOA := Aside0.mk HO1
  have hch : (wa.setCell ⟨gout, 0, none⟩ (.slice A L c)).cell? ⟨ghas, 0, none⟩ = some (.func (.func 23) #[] #[.pointer (some ⟨gt, 0, none⟩)]) := ((KeptO.below (B := B) (g := gout) hb (Nat.le_trans HB.out (Nat.le_of_lt HO.out.lt))).trans (KeptO.out HB.out _)).cell HC.out HN.out.1
  clear hr hb HO1
  go_wp2_with (fail)
  generalize hwb : (World.setCell _ _ _ : World) = wb
  have hk1 : KeptO B gout w wb := by rw [← hwb]; exact (KeptO.below (B := B) (g := gout) HB1.out (Nat.le_trans HB.out (Nat.le_of_lt HO.out.lt))).trans (KeptO.out HB.out _)
  have ho1 : OutAt wb gout (.slice A L c) := by rw [← hwb]; exact HOA.out.set _
  have hr1 : Kd.R (Kd.int .i64) 3 wb B (fun k => k ≠ gout) (.slice A L c) ml := by
    rw [← hwb]
    exact Kd.R_far (Kd.R_lower (Kd.R_mono (ok' := fun k => k ≠ gout) (Kd.R_bound HR.out) (fun k hk => by have := HO.out.lt; have := hk.2.1; omega)) (Nat.le_trans HB.out (Nat.le_of_lt HO.out.lt))) (p := ⟨gout, 0, none⟩) (fun k hk => hk) _
  have ht1 := hk1.town HT.out HN.out.2
  have HK1 := Aside0.mk hk1
  have HO1 := Aside0.mk ho1
  have HR1 := Aside0.mk hr1
  clear hk1 ho1 hr1 hwb hch hoc hof
  refine (HH.out _ ht1).mono ?_; rintro e wc ⟨rfl, hb2⟩
  have HB2 := Aside0.mk hb2
  clear hb2 ht1
  go_wp2_with (fail)
  go_ret
  exact ⟨_, rfl, HO1.out.below HB2.out, Kd.R_below HR1.out HB2.out, HK1.out.trans (KeptO.below HB2.out (Nat.le_trans HB.out (Nat.le_of_lt HO1.out.lt)))⟩
/-- What stands still while the sets are gone through. -/
structure InvE (n : Nat) (o : List Nat) (B gv gp gon gout ghas gt : Nat) (W : World) : Prop where
  v : W.cell? ⟨gv, 0, none⟩ = some (.func (.func 39) #[] #[.pointer (some ⟨gout, 0, none⟩), .pointer (some ⟨ghas, 0, none⟩)])
  p : W.cell? ⟨gp, 0, none⟩ = some (.int .i64 ((2 ^ n - 1 : Nat) : Int))
  on : W.cell? ⟨gon, 0, none⟩ = some (.func (.func 50) #[] #[.pointer (some ⟨gv, 0, none⟩), .pointer (some ⟨gp, 0, none⟩), .pointer (some ⟨gon, 0, none⟩)])
  has : W.cell? ⟨ghas, 0, none⟩ = some (.func (.func 23) #[] #[.pointer (some ⟨gt, 0, none⟩)])
  t : TownAt W gt (n : Int) o
  out : ∃ u, OutAt W gout u
  ne : gv ≠ gout ∧ gp ≠ gout ∧ gon ≠ gout ∧ ghas ≠ gout ∧ gt ≠ gout
  low : B ≤ gout
theorem InvE.kept {n : Nat} {o : List Nat} {B gv gp gon gout ghas gt : Nat} {W W1 : World} (h : InvE n o B gv gp gon gout ghas gt W) (k : KeptO B gout W W1) (ho : ∃ u, OutAt W1 gout u) : InvE n o B gv gp gon gout ghas gt W1 :=
  ⟨k.cell h.v h.ne.1, k.cell h.p h.ne.2.1, k.cell h.on h.ne.2.2.1, k.cell h.has h.ne.2.2.2.1, k.town h.t h.ne.2.2.2.2, ho, h.ne, h.low⟩
/-- What the search tells. -/
def OnPost (n : Nat) (o : List Nat) (B gout set_ from_ : Nat) (w : World) (b : Bool) (w' : World) : Prop :=
  KeptO B gout w w' ∧ ∃ u, OutAt w' gout u ∧ (b = true → ∃ s, s < 2 ^ n ∧ kerB n o s = true ∧ Kd.R (Kd.int .i64) 3 w' B (fun k => k ≠ gout) u (memI s)) ∧ (b = false → ∀ s, s < 2 ^ n → s % 2 ^ from_ = set_ → kerB n o s = false)
theorem InvE.drew {n : Nat} {o : List Nat} {B gv gp gon gout ghas gt : Nat} {W : World} (h : InvE n o B gv gp gon gout ghas gt W) : InvE n o B gv gp gon gout ghas gt W.drew := ⟨h.v, h.p, h.on, h.has, h.t, h.out, h.ne, h.low⟩
theorem KeptO.drew {B g : Nat} {W W1 : World} (h : KeptO B g W W1) : KeptO B g W W1.drew := ⟨h.1.drew, keep_drew h.2⟩
theorem KeptO.drew0 (B g : Nat) (W : World) : KeptO B g W W.drew := (KeptO.refl B g W).drew
theorem lt64n {i : Nat} (h : i ≤ 12) : i < 64 := by omega
theorem lt64 {i : Nat} (h : i < 12) : i < 64 := by omega
theorem le_mil {i : Nat} (h : i < 12) : i ≤ 1000000 := by omega
theorem all_bit (n i : Nat) (hn : n ≤ 12) (hi : i < n) : bits .and .i64 (((2 ^ n - 1 : Nat) : Int) / 2 ^ i) 1 = 1 := by
  have h4 : (2 : Nat) ^ n ≤ 2 ^ 12 := Nat.pow_le_pow_right (by decide) hn
  have h := bit_val (2 ^ n - 1) i (by omega)
  have h2 : (2 ^ n - 1).testBit i = true := by rw [Nat.testBit_two_pow_sub_one]; simp [hi]
  rw [h2, if_pos rfl] at h
  have e : (((2 ^ n - 1 : Nat) : Int) / 2 ^ i) = (((2 ^ n - 1) / 2 ^ i : Nat) : Int) := by push_cast; rfl
  rw [e]
  exact h
theorem all_more (n i : Nat) (hi : i < n) : (0 : Int) < ((2 ^ n - 1 : Nat) : Int) / 2 ^ i := by
  have h1 : (2 : Nat) ^ i ≤ 2 ^ (n - 1) := Nat.pow_le_pow_right (by decide) (by omega)
  have h2 : (2 : Nat) ^ n = 2 * 2 ^ (n - 1) := by rw [← Nat.pow_succ']; congr 1; omega
  have h3 : 0 < (2 ^ n - 1) / 2 ^ i := Nat.div_pos (by have := Nat.two_pow_pos i; omega) (Nat.two_pow_pos i)
  have h4 : (((2 ^ n - 1 : Nat) : Int) / 2 ^ i) = (((2 ^ n - 1) / 2 ^ i : Nat) : Int) := by push_cast; rfl
  rw [h4]
  omega
theorem all_end (n : Nat) : ((2 ^ n - 1 : Nat) : Int) / 2 ^ n = 0 := by
  have h : (2 ^ n - 1) / 2 ^ n = 0 := Nat.div_eq_of_lt (by have := Nat.two_pow_pos n; omega)
  have h4 : (((2 ^ n - 1 : Nat) : Int) / 2 ^ n) = (((2 ^ n - 1) / 2 ^ n : Nat) : Int) := by push_cast; rfl
  rw [h4, h]
  rfl
theorem or_bit (s i : Nat) (hs : s < 2 ^ i) (hi : i < 12) : bits .or .i64 (s : Int) (wrap64 (2 ^ i)) = ((s + 2 ^ i : Nat) : Int) := by
  have h4 : (2 : Nat) ^ i ≤ 2 ^ 12 := Nat.pow_le_pow_right (by decide) (by omega)
  rw [or_val s i (by omega) hi]
  congr 1
  have h := Nat.two_pow_add_eq_or_of_lt hs 1
  rw [Nat.mul_one] at h
  rw [Nat.or_comm, ← h, Nat.add_comm]
set_option maxHeartbeats 16000000 in
set_option maxRecDepth 100000 in
theorem on_walk (n : Nat) (hn : n ≤ 12) (o0 o1 o2 o3 o4 o5 o6 o7 o8 o9 o10 o11 : Nat) (hlt : ∀ j, [o0, o1, o2, o3, o4, o5, o6, o7, o8, o9, o10, o11].getD j 0 < 4096) (B gv gp gon gout ghas gt : Nat) : ∀ (d from_ set_ : Nat) (hd : n - from_ = d) (hf : from_ ≤ n) (hs : set_ < 2 ^ from_) (w : World) (hI : InvE n [o0, o1, o2, o3, o4, o5, o6, o7, o8, o9, o10, o11] B gv gp gon gout ghas gt w),
    Calls Try.prog 50 #[.int .i64 (set_ : Int), .int .i64 (from_ : Int), .pointer (some ⟨gv, 0, none⟩), .pointer (some ⟨gp, 0, none⟩), .pointer (some ⟨gon, 0, none⟩)] w fun e w' => ∃ b, e = .returned (.bool b) ∧ OnPost n [o0, o1, o2, o3, o4, o5, o6, o7, o8, o9, o10, o11] B gout set_ from_ w b w' := by
  intro d
  induction d using Nat.strongRecOn with
  | ind d ih =>
  intro from_ set_ hd hf hs w hI
  have hs2 : set_ < 2 ^ n := Nat.lt_of_lt_of_le hs (Nat.pow_le_pow_right (by decide) hf)
  obtain ⟨u, hu⟩ := hI.out
  have HV := Lib.hid (visit_walk n hn o0 o1 o2 o3 o4 o5 o6 o7 o8 o9 o10 o11 hlt set_ hs2 B gout ghas gt u w hI.low hu hI.has hI.t hI.ne.2.2.2.1 hI.ne.2.2.2.2)
  have HI0 := Aside0.mk hI
  have hcv := hI.v
  have HIH := Lib.hid (fun (i : Nat) (h1 : from_ ≤ i) (h2 : i < n) (wr : World) (hr : InvE n [o0, o1, o2, o3, o4, o5, o6, o7, o8, o9, o10, o11] B gv gp gon gout ghas gt wr) => ih (n - (i + 1)) (by omega) (i + 1) (set_ + 2 ^ i) rfl (by omega) (by have := Nat.pow_le_pow_right (n := 2) (by decide) h1; rw [Nat.pow_succ]; omega) wr hr)
  obtain ⟨k0, hk0⟩ : ∃ k0, kerB n [o0, o1, o2, o3, o4, o5, o6, o7, o8, o9, o10, o11] set_ = k0 := ⟨_, rfl⟩
  rw [hk0] at HV
  have HK0 := Aside0.mk hk0
  have HS := Aside0.mk (show n ≤ 12 ∧ from_ ≤ n ∧ set_ < 2 ^ from_ ∧ set_ < 2 ^ n from ⟨hn, hf, hs, hs2⟩)
  clear hu hI ih hd hs hs2 hk0 hlt
  go_enter Try.func50, Try.ntmps50
  go_wp2_with (fail)
  refine HV.out.mono ?_; rintro e wa ⟨v1, rfl, ho1, hr1, hk1⟩
  have HK1 := Aside0.mk hk1
  have HO1 := Aside0.mk ho1
  have HR1 := Aside0.mk hr1
  have HI1 := Aside0.mk (HI0.out.kept hk1 ⟨_, ho1⟩)
  clear hk1 ho1 hr1 hcv
  cases k0 with
  | true =>
    go_wp2_with (fail)
    go_ret
    first | exact ⟨true, rfl, HK1.out, _, HO1.out, fun _ => ⟨set_, HS.out.2.2.2, HK0.out, HR1.out⟩, fun h => by cases h⟩ | exact Or.inr ⟨rfl, HK1.out, _, HO1.out, fun _ => ⟨set_, HS.out.2.2.2, HK0.out, HR1.out⟩, fun h => by cases h⟩
  | false =>
    go_wp2_with (fail)
    go_loopw [8] (fun v8 wr => ∃ i : Nat, from_ ≤ i ∧ i ≤ n ∧ v8 = .int .i64 (i : Int) ∧ Aside0 (InvE n [o0, o1, o2, o3, o4, o5, o6, o7, o8, o9, o10, o11] B gv gp gon gout ghas gt wr) ∧ Aside0 (KeptO B gout w wr) ∧ Aside0 (∀ s, s < 2 ^ n → s % 2 ^ from_ = set_ → s % 2 ^ i ≠ set_ → kerB n [o0, o1, o2, o3, o4, o5, o6, o7, o8, o9, o10, o11] s = false)) (fun v8 _ => n - (intOf v8).toNat)
    case atStart => exact ⟨from_, Nat.le_refl _, HS.out.2.1, rfl, HI1, HK1, ⟨fun s h1 h2 h3 => absurd h2 h3⟩⟩
    case round =>
      clear HI1 HK1 HO1 HR1 HI0 HV
      obtain ⟨i, hi1, hi2, rfl, HI, HK, HN⟩ := hrel
      have hp := HI.out.p
      by_cases hin : i < n
      · have e1 := all_bit n i hn hin
        have e2 := all_more n i hin
        have hon := HI.out.on
        have e3 := or_bit set_ i (Nat.lt_of_lt_of_le HS.out.2.2.1 (Nat.pow_le_pow_right (by decide) hi1)) (Nat.lt_of_lt_of_le hin hn)
        have HIN := Aside0.mk hin
        have HC := Lib.hid (HIH.out i hi1 hin)
        obtain ⟨p, hpp⟩ : ∃ p, ((2 ^ n - 1 : Nat) : Int) = p := ⟨_, rfl⟩
        rw [hpp] at hp e1 e2
        obtain ⟨j, hj⟩ : ∃ j, p / 2 ^ i = j := ⟨_, rfl⟩
        rw [hj] at e1 e2
        have e4 : decide (0 < j) = true := decide_eq_true e2
        have e5 : wrap64 ((i : Int) + 1) = ((i + 1 : Nat) : Int) := wI (le_mil (Nat.lt_of_lt_of_le hin hn))
        have e6 : IntKind.i64.wrap ((i : Int) + 1) = ((i + 1 : Nat) : Int) := (i64_w _).trans e5
        have hi64 : (i < 64) = True := eq_true (lt64 (Nat.lt_of_lt_of_le hin hn))
        obtain ⟨i', hi'⟩ : ∃ i', i' = i + 1 := ⟨_, rfl⟩
        obtain ⟨set', hset'⟩ : ∃ set', set' = set_ + 2 ^ i := ⟨_, rfl⟩
        rw [← hi'] at e5 e6 HC
        rw [← hset'] at e3 HC
        have e7 : bits .or .i64 (set_ : Int) (IntKind.i64.wrap (2 ^ i)) = (set' : Int) := by rw [i64_w]; exact e3
        have HIP := Aside0.mk (And.intro hi' hset')
        clear hpp e2 hi' hset'
        go_wp2_with (fail)
        go_region_held3 (fun W => W.cell? ⟨gp, 0, none⟩ = some (.int .i64 p) ∧ W.cell? ⟨gon, 0, none⟩ = some (.func (.func 50) #[] #[.pointer (some ⟨gv, 0, none⟩), .pointer (some ⟨gp, 0, none⟩), .pointer (some ⟨gon, 0, none⟩)]))
          (first | assumption | (exact ⟨hp, hon⟩) | (exact ⟨hkp.cell hp HI.out.ne.2.1, hkp.cell hon HI.out.ne.2.2.1⟩))
          (first
            | (go_at_call 50; refine (HC.out _ HI.out.drew).mono ?_; rintro e w2 ⟨b, rfl, hkp, hpost⟩))
        obtain ⟨u2, ho2, hT, hF⟩ := hpost
        have HO2 := Aside0.mk ho2
        have HPT := Aside0.mk hT
        have HPF := Aside0.mk hF
        have HK2 := Aside0.mk (HK.out.trans ((KeptO.drew0 B gout wr).trans hkp))
        have HI2 := Aside0.mk (HI.out.drew.kept hkp ⟨_, ho2⟩)
        clear ho2 hT hF hkp HC e1 e3 e7 hj
        cases b with
        | true =>
          go_wp2_with (fail)
          go_ret
          first | exact ⟨true, rfl, HK2.out, _, HO2.out, fun _ => HPT.out (by first | rfl | trivial), fun h => by cases h⟩ | exact Or.inr ⟨rfl, HK2.out, _, HO2.out, fun _ => HPT.out (by first | rfl | trivial), fun h => by cases h⟩
        | false =>
          have HN2 := Aside0.mk (show ∀ s, s < 2 ^ n → s % 2 ^ from_ = set_ → s % 2 ^ i' ≠ set_ → kerB n [o0, o1, o2, o3, o4, o5, o6, o7, o8, o9, o10, o11] s = false from fun s h1 h2 h3 => by
            by_cases h4 : s % 2 ^ i = set_
            · refine HPF.out (by first | rfl | trivial) s h1 ?_
              obtain ⟨q1, q2⟩ := HIP.out
              rw [q1] at h3 ⊢
              rw [q2]
              rw [Nat.mod_pow_succ, h4] at h3 ⊢
              rcases Nat.mod_two_eq_zero_or_one (s / 2 ^ i) with h5 | h5
              · rw [h5] at h3; omega
              · rw [h5]; omega
            · exact HN.out s h1 h2 h4)
          have HLT := Aside0.mk (show from_ ≤ i' ∧ i' ≤ n ∧ i < n ∧ n ≤ 1000 from ⟨by have := HIP.out.1; omega, by have := HIP.out.1; have := HIN.out; omega, HIN.out, by omega⟩)
          clear hn hf hi1 hi2 hin e4 e6 HPF HPT HN
          go_wp2_with (fail)
          go_roundw
          case rel => exact ⟨i', HLT.out.1, HLT.out.2.1, congrArg (Value.int .i64) e5, HI2, HK2, HN2⟩
          case measure =>
            have h_ := mstepA HLT.out.2.2.1 HLT.out.2.2.2
            exact h_
      · obtain rfl : i = n := by omega
        have e1 := all_end i
        have HNF := Aside0.mk (show ∀ s, s < 2 ^ i → s % 2 ^ from_ = set_ → kerB i [o0, o1, o2, o3, o4, o5, o6, o7, o8, o9, o10, o11] s = false from fun s h1 h2 => by
          by_cases h4 : s = set_
          · rw [h4]; exact HK0.out
          · exact HN.out s h1 h2 (by rw [Nat.mod_eq_of_lt h1]; exact h4))
        obtain ⟨p, hpp⟩ : ∃ p, ((2 ^ i - 1 : Nat) : Int) = p := ⟨_, rfl⟩
        rw [hpp] at hp e1
        have hi64 : (i < 64) = True := eq_true (lt64n hn)
        obtain ⟨u2, hu2⟩ := HI.out.out
        have HO2 := Aside0.mk hu2
        clear hpp hu2
        go_wp2_with (fail)
        go_ret
        first | exact ⟨false, rfl, HK.out, _, HO2.out, fun h => (by cases h), fun _ => HNF.out⟩ | exact Or.inl ⟨rfl, HK.out, _, HO2.out, fun h => (by cases h), fun _ => HNF.out⟩
end Go.Proofs.Ytagmadfllfcloaa.PC
end
section
set_option linter.unusedVariables false
set_option linter.unusedSimpArgs false
/- shave's each, first and Kernel: the walks. -/
namespace Go.Proofs.Ytagmadfllfcloaa.PC
open Go.RowKit Go.Proofs.YtagmadfllfcloaaW.PrintWords Go.Proofs.YtagmadfllfcloaaW.PrintLast Go.Proofs.YtagmadfllfcloaaW.PrintMore
set_option linter.unusedVariables false
set_option linter.unusedSimpArgs false
theorem run_store_func {P : Program} {w : World} {a : Addr} {m : Mode} (f : Fn) (x y : Array Value) : (store a (.func f x y) m).run P w = stored P w a (.func f x y) m := run_store P w a _ m rfl
attribute [local go_sem] run_store_func
theorem alloc3 (w : World) (X Y Z : Obj) : (((w.alloc X).alloc Y).alloc Z).heap[w.heap.size]? = some X ∧ (((w.alloc X).alloc Y).alloc Z).heap[w.heap.size + 1]? = some Y ∧ (((w.alloc X).alloc Y).alloc Z).heap[w.heap.size + 1 + 1]? = some Z ∧ Below w.heap.size w (((w.alloc X).alloc Y).alloc Z) := by
  have h1 : (w.alloc X).heap.size = w.heap.size + 1 := by simp
  have h2 : ((w.alloc X).alloc Y).heap.size = w.heap.size + 1 + 1 := by simp
  have b2 : Below ((w.alloc X).alloc Y).heap.size ((w.alloc X).alloc Y) (((w.alloc X).alloc Y).alloc Z) := (Below.refl _ _).alloc (Nat.le_refl _) _
  refine ⟨?_, ?_, ?_, (((Below.refl _ _).alloc (Nat.le_refl _) _).alloc (by rw [h1]; omega) _).alloc (by rw [h2]; omega) _⟩
  · exact (b2.block _ (by rw [h2]; omega)).trans (alloc2_old w X Y)
  · exact (b2.block _ (by rw [h2]; omega)).trans (alloc2_new w X Y)
  · rw [← h2]; exact alloc1_newT _ Z
theorem cell_blk {W : World} {g : Nat} {v : Value} {e : TypeId} {f : Nat × Nat} (h : W.heap[g]? = some (.cells #[v] e f)) : W.cell? ⟨g, 0, none⟩ = some v := by
  unfold World.cell?
  rw [h]
  rfl
/-- What the search tells its caller. -/
def EachPost (n : Nat) (o : List Nat) (B gout : Nat) (w : World) (e : Ending) (w' : World) : Prop := ∃ b, e = .returned (.bool b) ∧ OnPost n o B gout 0 0 w b w'
set_option maxHeartbeats 8000000 in
set_option maxRecDepth 100000 in
theorem each_walk (n : Nat) (hn : n ≤ 12) (o0 o1 o2 o3 o4 o5 o6 o7 o8 o9 o10 o11 : Nat) (hlt : ∀ j, [o0, o1, o2, o3, o4, o5, o6, o7, o8, o9, o10, o11].getD j 0 < 4096) (B gout ghas gt : Nat) (u : Value) (w : World) (hB : B ≤ gout) (ho : OutAt w gout u) (hh : w.cell? ⟨ghas, 0, none⟩ = some (.func (.func 23) #[] #[.pointer (some ⟨gt, 0, none⟩)])) (ht : TownAt w gt (n : Int) [o0, o1, o2, o3, o4, o5, o6, o7, o8, o9, o10, o11]) (hn1 : ghas ≠ gout) (hn2 : gt ≠ gout) :
    Calls Try.prog 38 #[.int .i64 ((2 ^ n - 1 : Nat) : Int), .func (.func 39) #[] #[.pointer (some ⟨gout, 0, none⟩), .pointer (some ⟨ghas, 0, none⟩)]] w (EachPost n [o0, o1, o2, o3, o4, o5, o6, o7, o8, o9, o10, o11] B gout w) := by
  have HON := Lib.hid (fun (gv gp gon : Nat) (wr : World) (hI : InvE n [o0, o1, o2, o3, o4, o5, o6, o7, o8, o9, o10, o11] B gv gp gon gout ghas gt wr) => on_walk n hn o0 o1 o2 o3 o4 o5 o6 o7 o8 o9 o10 o11 hlt B gv gp gon gout ghas gt (n - 0) 0 0 rfl (Nat.zero_le _) (by decide) wr hI)
  have HI := Aside0.mk (And.intro hB (And.intro ho (And.intro hh (And.intro ht (And.intro hn1 hn2)))))
  obtain ⟨p, hp⟩ : ∃ p, ((2 ^ n - 1 : Nat) : Int) = p := ⟨_, rfl⟩
  have HP := Aside0.mk hp
  rw [hp]
  clear hn hlt hB ho hh ht hn1 hn2 hp
  go_enter Try.func38, Try.ntmps38
  go_wp2_with (fail)
  generalize hW : (World.alloc _ _ : World) = w3
  obtain ⟨gp, hgp⟩ : ∃ gp, gp = w.heap.size := ⟨_, rfl⟩
  obtain ⟨gv, hgv⟩ : ∃ gv, gv = w.heap.size + 1 := ⟨_, rfl⟩
  obtain ⟨gon, hgon⟩ : ∃ gon, gon = w.heap.size + 1 + 1 := ⟨_, rfl⟩
  have f1 := alloc3 w (.cells #[.int .i64 p] 3) (.cells #[.func (.func 39) #[] #[.pointer (some ⟨gout, 0, none⟩), .pointer (some ⟨ghas, 0, none⟩)]] 60) (.cells #[.func (.func 50) #[] #[.pointer (some ⟨w.heap.size + 1, 0, none⟩), .pointer (some ⟨w.heap.size, 0, none⟩), .pointer (some ⟨w.heap.size + 1 + 1, 0, none⟩)]] 51)
  rw [hW, ← hgon, ← hgv, ← hgp] at f1
  rw [← hgon, ← hgv, ← hgp]
  obtain ⟨hB, ho, hh, ht, hn1, hn2⟩ := HI.out
  have hbb := f1.2.2.2
  rw [hgp] at hbb
  have hgo := ho.lt
  have hI : InvE n [o0, o1, o2, o3, o4, o5, o6, o7, o8, o9, o10, o11] B gv gp gon gout ghas gt w3 := ⟨cell_blk f1.2.1, by rw [HP.out]; exact cell_blk f1.1, cell_blk f1.2.2.1, (hbb.cell (World.block_lt_of_cell? w _ hh)).trans hh, (hbb.block gt ht.lt).trans ht, ⟨u, (hbb.block gout ho.lt).trans ho⟩, ⟨by omega, by omega, by omega, hn1, hn2⟩, hB⟩
  have HK := Aside0.mk (KeptO.below (B := B) (g := gout) hbb (Nat.le_trans hB (Nat.le_of_lt ho.lt)))
  clear hB ho hh ht hn1 hn2 hW f1 hgp hgv hgon hbb hgo
  refine (HON.out gv gp gon w3 hI).mono ?_; rintro e w4 ⟨b, rfl, hk, hu⟩
  have HU := Aside0.mk (And.intro hk hu)
  clear hk hu hI
  go_wp2_with (fail)
  go_ret
  exact ⟨b, rfl, HK.out.trans HU.out.1, HU.out.2⟩
/-- What is found. -/
def FirstPost (n : Nat) (o : List Nat) (E : Int) (l : List Int) : Prop := (E = 0 ∧ ∃ s, s < 2 ^ n ∧ kerB n o s = true ∧ l = memI s) ∨ (E = 10 ∧ l = [] ∧ ∀ s, s < 2 ^ n → kerB n o s = false)
def FirstEnd (n : Nat) (o : List Nat) (w : World) (e : Ending) (w' : World) : Prop := ∃ v E l, e = .returned (.tuple #[v, .int .i64 E]) ∧ Kd.R (Kd.int .i64) 3 w' w.heap.size (fun _ => True) v l ∧ FirstPost n o E l ∧ Below w.heap.size w w'
set_option maxHeartbeats 8000000 in
set_option maxRecDepth 100000 in
theorem first_walk (n : Nat) (hn : n ≤ 12) (o0 o1 o2 o3 o4 o5 o6 o7 o8 o9 o10 o11 : Nat) (hlt : ∀ j, [o0, o1, o2, o3, o4, o5, o6, o7, o8, o9, o10, o11].getD j 0 < 4096) (gt : Nat) (w : World) (ht : TownAt w gt (n : Int) [o0, o1, o2, o3, o4, o5, o6, o7, o8, o9, o10, o11]) :
    Calls Try.prog 22 #[townL n o0 o1 o2 o3 o4 o5 o6 o7 o8 o9 o10 o11, .func (.func 23) #[] #[.pointer (some ⟨gt, 0, none⟩)]] w (FirstEnd n [o0, o1, o2, o3, o4, o5, o6, o7, o8, o9, o10, o11] w) := by
  have HE := Lib.hid (every_walk n hn o0 o1 o2 o3 o4 o5 o6 o7 o8 o9 o10 o11)
  have HEA := Lib.hid (fun (B gout ghas : Nat) (u : Value) (wr : World) hB ho hh ht hn1 hn2 => each_walk n hn o0 o1 o2 o3 o4 o5 o6 o7 o8 o9 o10 o11 hlt B gout ghas gt u wr hB ho hh ht hn1 hn2)
  have HT := Aside0.mk ht
  unfold townL at HE ⊢
  obtain ⟨p, hp⟩ : ∃ p, ((2 ^ n - 1 : Nat) : Int) = p := ⟨_, rfl⟩
  rw [hp] at HE
  simp only [hp] at HEA
  clear hn hlt ht hp
  go_enter Try.func22, Try.ntmps22
  go_wp2_with (fail)
  generalize hW : (World.alloc _ _ : World) = w3
  obtain ⟨ghas, hgh⟩ : ∃ ghas, ghas = w.heap.size + 1 := ⟨_, rfl⟩
  obtain ⟨gout, hgo⟩ : ∃ gout, gout = w.heap.size + 1 + 1 := ⟨_, rfl⟩
  have f1 := alloc3 w (.cells #[.int .i64 (n : Int), .int .i64 (o0 : Int), .int .i64 (o1 : Int), .int .i64 (o2 : Int), .int .i64 (o3 : Int), .int .i64 (o4 : Int), .int .i64 (o5 : Int), .int .i64 (o6 : Int), .int .i64 (o7 : Int), .int .i64 (o8 : Int), .int .i64 (o9 : Int), .int .i64 (o10 : Int), .int .i64 (o11 : Int)] 44) (.cells #[.func (.func 23) #[] #[.pointer (some ⟨gt, 0, none⟩)]] 60) (.cells #[.slice none 0 0] 23)
  rw [hW, ← hgo, ← hgh] at f1
  rw [← hgo, ← hgh]
  have HF := Aside0.mk f1
  have HG := Aside0.mk (And.intro hgh hgo)
  clear hW f1 hgh hgo
  refine (HE.out w3).mono ?_; rintro e w4 ⟨rfl, hb4⟩
  have HB4 := Aside0.mk hb4
  clear hb4
  go_wp2_with (fail)
  have ho3 : OutAt w3 gout (.slice none 0 0) := HF.out.2.2.1
  have hbb := HF.out.2.2.2
  have ht3 : TownAt w3 gt (n : Int) [o0, o1, o2, o3, o4, o5, o6, o7, o8, o9, o10, o11] := (hbb.block gt HT.out.lt).trans HT.out
  have hh3 := cell_blk HF.out.2.1
  have hgt := HT.out.lt
  refine (HEA.out w.heap.size gout ghas _ w4 (by have := HG.out; omega) (ho3.below HB4.out) ((HB4.out.cell (World.block_lt_of_cell? w3 _ hh3)).trans hh3) (ht3.below HB4.out) (by have := HG.out; omega) (by have := HG.out; omega)).mono ?_
  rintro e w5 ⟨b, rfl, hk, u, ho5, hT, hF⟩
  have HO5 := Aside0.mk ho5
  have HR5 := Aside0.mk (And.intro hT hF)
  have HB5 := Aside0.mk (show Below w.heap.size w w5 from (hbb.trans (HB4.out.mono hbb.size)).trans hk.1)
  clear ho3 hbb ht3 hh3 hgt hk hT hF ho5
  cases b with
  | true =>
    obtain ⟨s, hs1, hs2, hs3⟩ := HR5.out.1 rfl
    have HS := Aside0.mk (And.intro hs1 (And.intro hs2 hs3))
    obtain ⟨A, c, rfl⟩ := Kd.R_slice hs3
    have hc5 := HO5.out.cell
    clear hs1 hs2 hs3
    go_wp2_with (fail)
    go_ret2
    exact ⟨_, _, _, rfl, Kd.R_mono HS.out.2.2 (fun _ _ => trivial), .inl ⟨rfl, s, HS.out.1, HS.out.2.1, rfl⟩, HB5.out⟩
  | false =>
    have HN := Aside0.mk (HR5.out.2 rfl)
    go_wp2_with (fail)
    go_ret2
    exact ⟨_, _, _, rfl, Kd.R_nil _ _ _ _ _, .inr ⟨rfl, rfl, fun s hs => HN.out s hs (by rw [Nat.pow_zero, Nat.mod_one])⟩, HB5.out⟩
end Go.Proofs.Ytagmadfllfcloaa.PC
end
section
set_option linter.unusedVariables false
set_option linter.unusedSimpArgs false
/- truth's letters and arcs on the sentences of a town: the walks. -/
namespace Go.Proofs.Ytagmadfllfcloaa.PC
open Go.RowKit Go.Proofs.YtagmadfllfcloaaW.PrintWords Go.Proofs.YtagmadfllfcloaaW.PrintLast Go.Proofs.YtagmadfllfcloaaW.PrintMore
set_option linter.unusedVariables false
set_option linter.unusedSimpArgs false
attribute [local go_sem] run_store_func
/-- A row of arcs: none is even. -/
def rowV (s : List Bool) : List Value := s.flatMap fun b => [.bool false, .bool b]
theorem rowV_0 : ∀ (s : List Bool) (j : Nat), j < s.length → (rowV s)[j * 2]? = some (.bool false)
  | b :: s, 0, _ => rfl
  | b :: s, j + 1, h => by
    rw [show (j + 1) * 2 = j * 2 + 1 + 1 by omega]
    show (Value.bool false :: Value.bool b :: rowV s)[j * 2 + 1 + 1]? = _
    rw [List.getElem?_cons_succ, List.getElem?_cons_succ]
    exact rowV_0 s j (Nat.lt_of_succ_lt_succ h)
theorem rowV_1 : ∀ (s : List Bool) (j : Nat), j < s.length → (rowV s)[j * 2 + 1]? = some (.bool (s.getD j false))
  | b :: s, 0, _ => rfl
  | b :: s, j + 1, h => by
    rw [show (j + 1) * 2 + 1 = j * 2 + 1 + 1 + 1 by omega]
    show (Value.bool false :: Value.bool b :: rowV s)[j * 2 + 1 + 1 + 1]? = _
    rw [List.getElem?_cons_succ, List.getElem?_cons_succ, rowV_1 s j (Nat.lt_of_succ_lt_succ h)]
    simp [List.getD_eq_getElem?_getD]
theorem rowV_set0 : ∀ (s : List Bool) (j : Nat), (rowV s).set (j * 2) (.bool false) = rowV s
  | [], j => rfl
  | b :: s, 0 => rfl
  | b :: s, j + 1 => by
    rw [show (j + 1) * 2 = j * 2 + 1 + 1 by omega]
    show (Value.bool false :: Value.bool b :: rowV s).set (j * 2 + 1 + 1) _ = _
    rw [List.set_cons_succ, List.set_cons_succ, rowV_set0 s j]; rfl
theorem rowV_set1 : ∀ (s : List Bool) (j : Nat), (rowV s).set (j * 2 + 1) (.bool true) = rowV (s.set j true)
  | [], j => rfl
  | b :: s, 0 => rfl
  | b :: s, j + 1 => by
    rw [show (j + 1) * 2 + 1 = j * 2 + 1 + 1 + 1 by omega]
    show (Value.bool false :: Value.bool b :: rowV s).set (j * 2 + 1 + 1 + 1) _ = _
    rw [List.set_cons_succ, List.set_cons_succ, rowV_set1 s j]; rfl
def RowAt (W : World) (g : Nat) (s : List Bool) : Prop := W.heap[g]? = some (.cells (rowV s).toArray 65 (0, 0))
theorem RowAt.c0 {W : World} {g : Nat} {s : List Bool} (h : RowAt W g s) {j : Nat} (hj : j < s.length) : W.cell? ⟨g, j * 2, none⟩ = some (.bool false) := by
  unfold World.cell?
  rw [h]
  simpa using rowV_0 s j hj
theorem RowAt.c1 {W : World} {g : Nat} {s : List Bool} (h : RowAt W g s) {j : Nat} (hj : j < s.length) : W.cell? ⟨g, j * 2 + 1, none⟩ = some (.bool (s.getD j false)) := by
  unfold World.cell?
  rw [h]
  simpa using rowV_1 s j hj
theorem RowAt.free {W : World} {g : Nat} {s : List Bool} (h : RowAt W g s) (j : Nat) : W.frozen? ⟨g, j, none⟩ = false := by
  unfold RowAt at h
  simp [World.frozen?, h]
theorem RowAt.put1 {W : World} {g : Nat} {s : List Bool} (h : RowAt W g s) (j : Nat) : RowAt (W.setCell ⟨g, j * 2 + 1, none⟩ (.bool true)) g (s.set j true) := by
  have := blk_set (j := j * 2 + 1) h (.bool true)
  rw [rowV_set1] at this
  exact this
theorem RowAt.put0 {W : World} {g : Nat} {s : List Bool} (h : RowAt W g s) (j : Nat) : RowAt (W.setCell ⟨g, j * 2, none⟩ (.bool false)) g s := by
  have := blk_set (j := j * 2) h (.bool false)
  rw [rowV_set0] at this
  exact this
theorem RowAt.lt {W : World} {g : Nat} {s : List Bool} (h : RowAt W g s) : g < W.heap.size := by
  unfold RowAt at h
  exact (Array.getElem?_eq_some_iff.1 h).1
theorem RowAt.below {W W' : World} {g : Nat} {s : List Bool} (h : RowAt W g s) (hb : Below W.heap.size W W') : RowAt W' g s := (hb.block g h.lt).trans h
/-- What the visits read. -/
structure InvA (N i gout gi gO gR : Nat) (W : World) : Prop where
  out : W.cell? ⟨gout, 0, none⟩ = some (.slice (some ⟨gO, 0, none⟩) N N)
  idx : W.cell? ⟨gi, 0, none⟩ = some (.int .i64 (i : Int))
  row : W.cell? ⟨gO, i, none⟩ = some (.slice (some ⟨gR, 0, none⟩) N N)
  ne : gout ≠ gR ∧ gi ≠ gR ∧ gO ≠ gR
theorem InvA.kept {N i gout gi gO gR B : Nat} {W W1 : World} (h : InvA N i gout gi gO gR W) (k : KeptO B gR W W1) : InvA N i gout gi gO gR W1 :=
  ⟨k.cell h.out h.ne.1, k.cell h.idx h.ne.2.1, k.cell h.row h.ne.2.2, h.ne⟩
/-- What visits leave. -/
def LetPost (B gR : Nat) (s : List Bool) (W : World) (e : Ending) (W' : World) : Prop := e = .returned (.tuple #[]) ∧ RowAt W' gR s ∧ KeptO B gR W W'
set_option maxHeartbeats 4000000 in
set_option maxRecDepth 100000 in
theorem visit_calls (N i gout gi gO gR B : Nat) (hi : i < N) (hB : B ≤ gR) (x : Nat) (hx : x < N) (hN : N ≤ 10) (s : List Bool) (hs : s.length = N) (W : World) (hI : InvA N i gout gi gO gR W) (hr : RowAt W gR s) :
    Calls Try.prog 40 #[.int .i64 (x : Int), .bool true, .bool false, .pointer (some ⟨gout, 0, none⟩), .pointer (some ⟨gi, 0, none⟩)] W (LetPost B gR (s.set x true) W) := by
  have h1 := hI.out
  have h2 := hI.idx
  have h3 := hI.row
  have h4 := hr.c1 (j := x) (by omega)
  have h5 := hr.free (x * 2 + 1)
  have hr1 := hr.put1 x
  have h6 := hr1.c0 (j := x) (by rw [List.length_set]; omega)
  have h7 := hr1.free (x * 2)
  have HR2 := Aside0.mk (hr1.put0 x)
  have HK2 := Aside0.mk (show KeptO B gR W ((W.setCell ⟨gR, x * 2 + 1, none⟩ (.bool true)).setCell ⟨gR, x * 2, none⟩ (.bool false)) from ⟨((Below.refl _ _).setCell (p := ⟨gR, x * 2 + 1, none⟩) hB _).setCell (p := ⟨gR, x * 2, none⟩) hB _, ((KeepBut.refl _ _ _).set_ (x * 2 + 1) _).set_ (x * 2) _⟩)
  have d1n : (i < N) = True := eq_true hi
  have d2n : (x < N) = True := eq_true hx
  have d1 : decide ((i : Int) < (N : Int)) = true := decide_eq_true (by omega)
  have d2 : decide ((x : Int) < (N : Int)) = true := decide_eq_true (by omega)
  obtain ⟨b, hb⟩ : ∃ b, s.getD x false = b := ⟨_, rfl⟩
  rw [hb] at h4
  have H1 := Aside0.mk hr1
  clear hI hr hr1 hs hi hx hB hN hb
  go_enter Try.func40, Try.ntmps40
  go_wp2
  all_goals refine bodyPost_end (results_none rfl _ _ _) rfl ?_
  all_goals exact ⟨rfl, HR2.out, HK2.out⟩
/-- The function that is handed to letters. -/
def visV (gout gi : Nat) : Value := .func (.func 40) #[] #[.pointer (some ⟨gout, 0, none⟩), .pointer (some ⟨gi, 0, none⟩)]
def setAll (m : List Nat) (s : List Bool) : List Bool := m.foldl (fun s x => s.set x true) s
theorem setAll_len : ∀ (m : List Nat) (s : List Bool), (setAll m s).length = s.length
  | [], s => rfl
  | x :: m, s => (setAll_len m (s.set x true)).trans List.length_set
theorem LetPost.after {B gR : Nat} {s : List Bool} {W W1 W2 : World} {e : Ending} (hk : KeptO B gR W W1) (h : LetPost B gR s W1 e W2) : LetPost B gR s W e W2 := ⟨h.1, h.2.1, hk.trans h.2.2⟩
set_option maxHeartbeats 4000000 in
set_option maxRecDepth 100000 in
theorem letter_let (N i gout gi gO gR B : Nat) (hi : i < N) (hB : B ≤ gR) (x : Nat) (hx : x < N) (hN : N ≤ 10) (s : List Bool) (hs : s.length = N) (W : World) (hI : InvA N i gout gi gO gR W) (hr : RowAt W gR s) :
    Calls Try.prog 81 #[.int .i64 (x : Int), .bool true, .bool false, visV gout gi] W (LetPost B gR (s.set x true) W) := by
  have HV := Lib.hid (visit_calls N i gout gi gO gR B hi hB x hx hN s hs W hI hr)
  unfold visV
  clear hi hB hx hN hs hI hr
  go_enter Try.func81, Try.ntmps81
  go_wp2_with (fail)
  refine HV.out.mono ?_; rintro e wa ⟨rfl, hp⟩
  have HP := Aside0.mk hp
  clear hp
  go_wp2_with (fail)
  refine bodyPost_end (results_none rfl _ _ _) rfl ?_
  exact ⟨rfl, HP.out⟩
set_option maxHeartbeats 4000000 in
set_option maxRecDepth 100000 in
theorem not_let (N i gout gi gO gR B : Nat) (hi : i < N) (hB : B ≤ gR) (x : Nat) (hx : x < N) (hN : N ≤ 10) (s : List Bool) (hs : s.length = N) (W : World) (hBW : B ≤ W.heap.size) (hI : InvA N i gout gi gO gR W) (hr : RowAt W gR s) :
    Calls Try.prog 83 #[.agg #[.iface 110 (.int .i64 (x : Int))], .bool false, .bool false, visV gout gi] W (LetPost B gR (s.set x true) W) := by
  have HV := Lib.hid (fun (W1 : World) (hk : KeptO B gR W W1) hr1 => letter_let N i gout gi gO gR B hi hB x hx hN s hs W1 (hI.kept hk) hr1)
  have HB := Aside0.mk hBW
  have HR := Aside0.mk hr
  unfold visV at HV ⊢
  clear hi hB hx hN hs hI hr hBW
  go_enter Try.func83, Try.ntmps83
  go_wp2_with (fail)
  have hb1 : Below W.heap.size W (W.alloc (.cells #[.iface 110 (.int .i64 (x : Int))] 112)) := (Below.refl _ _).alloc (Nat.le_refl _) _
  have hk1 := KeptO.below (B := B) (g := gR) hb1 HB.out
  refine (HV.out _ hk1 (HR.out.below hb1)).mono ?_; rintro e wa hp
  obtain ⟨rfl, hp2⟩ := LetPost.after hk1 hp
  have HP := Aside0.mk hp2
  clear hp hp2 hk1 hb1
  go_wp2_with (fail)
  refine bodyPost_end (results_none rfl _ _ _) rfl ?_
  exact ⟨rfl, HP.out⟩
set_option maxHeartbeats 4000000 in
set_option maxRecDepth 100000 in
theorem pair_let1 (N i gout gi gO gR B : Nat) (hi : i < N) (hB : B ≤ gR) (x : Nat) (hx : x < N) (hN : N ≤ 10) (X : Value) (m : List Nat)
    (hX : ∀ (s : List Bool) (hs : s.length = N) (W : World) (hBW : B ≤ W.heap.size) (hI : InvA N i gout gi gO gR W) (hr : RowAt W gR s), Calls Try.prog 83 #[X, .bool false, .bool false, visV gout gi] W (LetPost B gR (setAll m s) W))
    (s : List Bool) (hs : s.length = N) (W : World) (hBW : B ≤ W.heap.size) (hI : InvA N i gout gi gO gR W) (hr : RowAt W gR s) :
    Calls Try.prog 86 #[.agg #[.iface 112 (.agg #[.iface 110 (.int .i64 (x : Int))]), .iface 112 X, .int .u8 38], .bool false, .bool false, visV gout gi] W (LetPost B gR (setAll (x :: m) s) W) := by
  have HV := Lib.hid (fun (W1 : World) (hk : KeptO B gR W W1) hb hr1 => not_let N i gout gi gO gR B hi hB x hx hN s hs W1 hb (hI.kept hk) hr1)
  have HX := Lib.hid (fun (W1 : World) (hk : KeptO B gR W W1) hb hr1 => hX (s.set x true) (by rw [List.length_set, hs]) W1 hb (hI.kept hk) hr1)
  have HB := Aside0.mk hBW
  have HR := Aside0.mk hr
  unfold visV at HV HX ⊢
  have HE := Aside0.mk (show setAll (x :: m) s = setAll m (s.set x true) from rfl)
  obtain ⟨s2, hs2⟩ : ∃ s2, setAll (x :: m) s = s2 := ⟨_, rfl⟩
  rw [hs2] at HE ⊢
  rw [← HE.out] at HX
  clear hi hB hx hN hs hI hr hBW hX hs2 HE
  go_enter Try.func86, Try.ntmps86
  go_wp2_with (fail)
  generalize hW : (World.alloc _ _ : World) = w1
  have hb1 : Below W.heap.size W w1 := by rw [← hW]; exact (Below.refl _ _).alloc (Nat.le_refl _) _
  have hk1 := KeptO.below (B := B) (g := gR) hb1 HB.out
  have hc1 := alloc1_newT W (.cells #[.iface 112 (.agg #[.iface 110 (.int .i64 (x : Int))]), .iface 112 X, .int .u8 38] 114)
  rw [hW] at hc1
  clear hW
  refine (HV.out w1 hk1 (Nat.le_trans HB.out hb1.size) (HR.out.below hb1)).mono ?_; rintro e wa hp
  have hne : W.heap.size ≠ gR := by have := HR.out.lt; omega
  have hq : wa.cell? ⟨W.heap.size, 1, none⟩ = some (.iface 112 X) := by
    refine hp.2.2.cell (a := ⟨W.heap.size, 1, none⟩) ?_ hne
    unfold World.cell?
    rw [hc1]
    rfl
  obtain ⟨rfl, hp2⟩ := LetPost.after hk1 hp
  have HP := Aside0.mk hp2
  clear hp hp2 hk1 hc1 hne hb1
  go_wp2_with (fail)
  refine (HX.out wa HP.out.2 (Nat.le_trans HB.out HP.out.2.1.size) HP.out.1).mono ?_; rintro e wb hp
  obtain ⟨rfl, hp2⟩ := LetPost.after HP.out.2 hp
  have HP2 := Aside0.mk hp2
  clear hp hp2
  go_wp2_with (fail)
  refine bodyPost_end (results_none rfl _ _ _) rfl ?_
  exact ⟨rfl, HP2.out⟩
set_option maxHeartbeats 4000000 in
set_option maxRecDepth 100000 in
theorem pair_let2 (N i gout gi gO gR B : Nat) (hi : i < N) (hB : B ≤ gR) (x : Nat) (hx : x < N) (hN : N ≤ 10) (X : Value) (m : List Nat)
    (hX : ∀ (s : List Bool) (hs : s.length = N) (W : World) (hBW : B ≤ W.heap.size) (hI : InvA N i gout gi gO gR W) (hr : RowAt W gR s), Calls Try.prog 86 #[X, .bool false, .bool false, visV gout gi] W (LetPost B gR (setAll m s) W))
    (s : List Bool) (hs : s.length = N) (W : World) (hBW : B ≤ W.heap.size) (hI : InvA N i gout gi gO gR W) (hr : RowAt W gR s) :
    Calls Try.prog 86 #[.agg #[.iface 112 (.agg #[.iface 110 (.int .i64 (x : Int))]), .iface 114 X, .int .u8 38], .bool false, .bool false, visV gout gi] W (LetPost B gR (setAll (x :: m) s) W) := by
  have HV := Lib.hid (fun (W1 : World) (hk : KeptO B gR W W1) hb hr1 => not_let N i gout gi gO gR B hi hB x hx hN s hs W1 hb (hI.kept hk) hr1)
  have HX := Lib.hid (fun (W1 : World) (hk : KeptO B gR W W1) hb hr1 => hX (s.set x true) (by rw [List.length_set, hs]) W1 hb (hI.kept hk) hr1)
  have HB := Aside0.mk hBW
  have HR := Aside0.mk hr
  unfold visV at HV HX ⊢
  have HE := Aside0.mk (show setAll (x :: m) s = setAll m (s.set x true) from rfl)
  obtain ⟨s2, hs2⟩ : ∃ s2, setAll (x :: m) s = s2 := ⟨_, rfl⟩
  rw [hs2] at HE ⊢
  rw [← HE.out] at HX
  clear hi hB hx hN hs hI hr hBW hX hs2 HE
  go_enter Try.func86, Try.ntmps86
  go_wp2_with (fail)
  generalize hW : (World.alloc _ _ : World) = w1
  have hb1 : Below W.heap.size W w1 := by rw [← hW]; exact (Below.refl _ _).alloc (Nat.le_refl _) _
  have hk1 := KeptO.below (B := B) (g := gR) hb1 HB.out
  have hc1 := alloc1_newT W (.cells #[.iface 112 (.agg #[.iface 110 (.int .i64 (x : Int))]), .iface 114 X, .int .u8 38] 114)
  rw [hW] at hc1
  clear hW
  refine (HV.out w1 hk1 (Nat.le_trans HB.out hb1.size) (HR.out.below hb1)).mono ?_; rintro e wa hp
  have hne : W.heap.size ≠ gR := by have := HR.out.lt; omega
  have hq : wa.cell? ⟨W.heap.size, 1, none⟩ = some (.iface 114 X) := by
    refine hp.2.2.cell (a := ⟨W.heap.size, 1, none⟩) ?_ hne
    unfold World.cell?
    rw [hc1]
    rfl
  obtain ⟨rfl, hp2⟩ := LetPost.after hk1 hp
  have HP := Aside0.mk hp2
  clear hp hp2 hk1 hc1 hne hb1
  go_wp2_with (fail)
  refine (HX.out wa HP.out.2 (Nat.le_trans HB.out HP.out.2.1.size) HP.out.1).mono ?_; rintro e wb hp
  obtain ⟨rfl, hp2⟩ := LetPost.after HP.out.2 hp
  have HP2 := Aside0.mk hp2
  clear hp hp2
  go_wp2_with (fail)
  refine bodyPost_end (results_none rfl _ _ _) rfl ?_
  exact ⟨rfl, HP2.out⟩
/-- The function that tells a sentence's letters. -/
def lettF : List Nat → Nat
  | [] => 79
  | [_] => 83
  | _ :: _ :: _ => 86
theorem one_let (gout gi gR B : Nat) (s : List Bool) (W : World) (hr : RowAt W gR s) :
    Calls Try.prog 79 #[.int .u8 49, .bool false, .bool false, visV gout gi] W (LetPost B gR s W) := by
  have HP := Aside0.mk (show RowAt W gR s ∧ KeptO B gR W W from ⟨hr, KeptO.refl _ _ _⟩)
  unfold visV
  clear hr
  go_enter Try.func79, Try.ntmps79
  go_wp2_with (fail)
  refine bodyPost_end (results_none rfl _ _ _) rfl ?_
  exact ⟨rfl, HP.out⟩
theorem comb_let (N i gout gi gO gR B : Nat) (hi : i < N) (hB : B ≤ gR) (hN : N ≤ 10) : ∀ (m : List Nat) (hm : ∀ x ∈ m, x < N) (s : List Bool) (hs : s.length = N) (W : World) (hBW : B ≤ W.heap.size) (hI : InvA N i gout gi gO gR W) (hr : RowAt W gR s),
    Calls Try.prog (lettF m) #[combX m, .bool false, .bool false, visV gout gi] W (LetPost B gR (setAll m s) W)
  | [], hm, s, hs, W, hBW, hI, hr => one_let gout gi gR B s W hr
  | [x], hm, s, hs, W, hBW, hI, hr => not_let N i gout gi gO gR B hi hB x (hm x (by simp)) hN s hs W hBW hI hr
  | x :: [y], hm, s, hs, W, hBW, hI, hr => pair_let1 N i gout gi gO gR B hi hB x (hm x (by simp)) hN (combX [y]) [y] (fun s hs W hBW hI hr => comb_let N i gout gi gO gR B hi hB hN [y] (fun z hz => hm z (List.mem_cons_of_mem _ hz)) s hs W hBW hI hr) s hs W hBW hI hr
  | x :: y :: z :: r, hm, s, hs, W, hBW, hI, hr => pair_let2 N i gout gi gO gR B hi hB x (hm x (by simp)) hN (combX (y :: z :: r)) (y :: z :: r) (fun s hs W hBW hI hr => comb_let N i gout gi gO gR B hi hB hN (y :: z :: r) (fun z hz => hm z (List.mem_cons_of_mem _ hz)) s hs W hBW hI hr) s hs W hBW hI hr
end Go.Proofs.Ytagmadfllfcloaa.PC
end
section
set_option linter.unusedVariables false
set_option linter.unusedSimpArgs false
/- truth's arcs on the sentences of a town: the walk. -/
namespace Go.Proofs.Ytagmadfllfcloaa.PC
open Go.RowKit Go.Proofs.YtagmadfllfcloaaW.PrintWords Go.Proofs.YtagmadfllfcloaaW.PrintLast Go.Proofs.YtagmadfllfcloaaW.PrintMore
set_option linter.unusedVariables false
set_option linter.unusedSimpArgs false
attribute [local go_sem] run_store_func
theorem made66 (N : Nat) (hN : N ≤ 10) : madeCells (Value.slice none 0 0).cells (N * 1) = (List.replicate N (Value.slice none 0 0)).toArray := by
  obtain rfl | rfl | rfl | rfl | rfl | rfl | rfl | rfl | rfl | rfl | rfl : N = 0 ∨ N = 1 ∨ N = 2 ∨ N = 3 ∨ N = 4 ∨ N = 5 ∨ N = 6 ∨ N = 7 ∨ N = 8 ∨ N = 9 ∨ N = 10 := by omega
  all_goals (clear hN; kernel_rfl)
theorem made65 (N : Nat) (hN : N ≤ 10) : madeCells (Value.agg #[.bool false, .bool false]).cells (N * 2) = (rowV (List.replicate N false)).toArray := by
  obtain rfl | rfl | rfl | rfl | rfl | rfl | rfl | rfl | rfl | rfl | rfl : N = 0 ∨ N = 1 ∨ N = 2 ∨ N = 3 ∨ N = 4 ∨ N = 5 ∨ N = 6 ∨ N = 7 ∨ N = 8 ∨ N = 9 ∨ N = 10 := by omega
  all_goals (clear hN; kernel_rfl)
theorem info66 : (Try.prog.info? 66).map (fun i => (i.zero, i.size, i.bytes)) = some (some (.slice none 0 0), 1, 24) := by kernel_rfl
theorem info65 : (Try.prog.info? 65).map (fun i => (i.zero, i.size, i.bytes)) = some (some (.agg #[.bool false, .bool false]), 2, 2) := by kernel_rfl
theorem mk61 (N : Nat) (hN : N ≤ 10) (W : World) : Sem.run Try.prog (Instr.makeSlice 61 (.int .i64 (N : Int)) (.int .i64 (N : Int))) W = Result.ok (.slice (some ⟨W.heap.size, 0, none⟩) N N) (W.alloc (.cells (List.replicate N (Value.slice none 0 0)).toArray 66)) := by
  obtain ⟨i, hi, he⟩ := Option.map_eq_some_iff.1 info66
  simp only [Prod.mk.injEq] at he
  have := run_make (P := Try.prog) W 61 66 i _ Try.underlying61 hi he.1 .i64 .i64 (N : Int) (N : Int) (by omega) (by omega) (by rw [he.2.2]; omega) (by omega)
  rw [he.2.1, Int.toNat_natCast, made66 N hN] at this
  exact this
theorem mk66 (N : Nat) (hN : N ≤ 10) (W : World) : Sem.run Try.prog (Instr.makeSlice 66 (.int .i64 (N : Int)) (.int .i64 (N : Int))) W = Result.ok (.slice (some ⟨W.heap.size, 0, none⟩) N N) (W.alloc (.cells (rowV (List.replicate N false)).toArray 65)) := by
  obtain ⟨i, hi, he⟩ := Option.map_eq_some_iff.1 info65
  simp only [Prod.mk.injEq] at he
  have := run_make (P := Try.prog) W 66 65 i _ Try.underlying66 hi he.1 .i64 .i64 (N : Int) (N : Int) (by omega) (by omega) (by rw [he.2.2]; omega) (by omega)
  rw [he.2.1, Int.toNat_natCast, made65 N hN] at this
  exact this
def rowOf (N : Nat) (m : List Nat) : List Bool := setAll m (List.replicate N false)
/-- The table of arcs. -/
def ArcsAt (W : World) (gO N : Nat) (ms : List (List Nat)) : Prop := ∀ k, k < N → ∃ g, W.cell? ⟨gO, k, none⟩ = some (.slice (some ⟨g, 0, none⟩) N N) ∧ RowAt W g (rowOf N (ms.getD k []))
theorem ArcsAt.below {W W' : World} {gO N : Nat} {ms : List (List Nat)} (h : ArcsAt W gO N ms) (hb : Below W.heap.size W W') : ArcsAt W' gO N ms := fun k hk => by
  obtain ⟨g, hc, hr⟩ := h k hk
  exact ⟨g, (hb.cell (World.block_lt_of_cell? W _ hc)).trans hc, hr.below hb⟩
theorem KeptO.row {B g : Nat} {W W1 : World} (h : KeptO B g W W1) {g' : Nat} {s : List Bool} (hr : RowAt W g' s) (hne : g' ≠ g) : RowAt W1 g' s := h.2.blk hr hne (by simp)
def TabAt (W : World) (gO N : Nat) (ms : List (List Nat)) (i : Nat) : Prop := ∃ L : List Value, L.length = N ∧ W.heap[gO]? = some (.cells L.toArray 66 (0, 0)) ∧ ∀ k, k < i → ∃ g, g ≠ gO ∧ L[k]? = some (.slice (some ⟨g, 0, none⟩) N N) ∧ RowAt W g (rowOf N (ms.getD k []))
theorem tab_row {N i gi gO B : Nat} {ms : List (List Nat)} {L : List Value} {wr w2 w3 w4 w5 : World} (hgi : gi = wr.heap.size) (hgO : gO < wr.heap.size) (hL : L.length = N) (hi : i < N)
    (hLk : ∀ k, k < i → ∃ g, g ≠ gO ∧ L[k]? = some (.slice (some ⟨g, 0, none⟩) N N) ∧ RowAt wr g (rowOf N (ms.getD k []))) (hb2 : Below wr.heap.size wr w2) (hb3 : Below w2.heap.size w2 w3) (ht3 : w3.heap[gO]? = some (.cells L.toArray 66 (0, 0)))
    (h4 : w4 = (w3.setCell ⟨gO, i, none⟩ (.slice (some ⟨gi + 1, 0, none⟩) N N)).drew) (hp : RowAt w5 (gi + 1) (rowOf N (ms.getD i [])) ∧ KeptO B (gi + 1) w4 w5) : TabAt w5 gO N ms (i + 1) := by
  have hk4 : KeptO gO gO w3 w4 := by rw [h4]; exact ⟨below_drew ((Below.refl _ _).setCell (p := ⟨gO, i, none⟩) (Nat.le_refl _) _), keep_drew ((KeepBut.refl _ _ _).set_ i _)⟩
  have ht4 : w4.heap[gO]? = some (.cells (L.set i (.slice (some ⟨gi + 1, 0, none⟩) N N)).toArray 66 (0, 0)) := by rw [h4]; exact blk_set ht3 _
  have ht5 := hp.2.2.blk ht4 (by omega) (by simp)
  refine ⟨_, by rw [List.length_set]; exact hL, ht5, fun k hk => ?_⟩
  by_cases hki : k = i
  · subst hki
    refine ⟨gi + 1, by omega, ?_, hp.1⟩
    rw [List.getElem?_set_self (by omega)]
  · obtain ⟨g, h1, h2, h3⟩ := hLk k (by omega)
    have hg := h3.lt
    exact ⟨g, h1, by rw [List.getElem?_set_ne (by omega)]; exact h2, hp.2.row (hk4.row ((h3.below hb2).below hb3) h1) (by omega)⟩
/-- What is known behind the new row. -/
def ArcD (N i gout gi gO : Nat) (ms : List (List Nat)) (L : List Value) (wr w2 w3 : World) : Prop :=
  gi = wr.heap.size ∧ gO < wr.heap.size ∧ L.length = N ∧ wr.heap[gO]? = some (.cells L.toArray 66 (0, 0)) ∧ (∀ k, k < i → ∃ g, g ≠ gO ∧ L[k]? = some (.slice (some ⟨g, 0, none⟩) N N) ∧ RowAt wr g (rowOf N (ms.getD k []))) ∧ Below wr.heap.size wr w2 ∧ Below w2.heap.size w2 w3 ∧ w3.heap[gO]? = some (.cells L.toArray 66 (0, 0)) ∧ RowAt w3 (gi + 1) (List.replicate N false)
theorem arc_start {N i gout gi gO : Nat} {ms : List (List Nat)} {L : List Value} {w wr w2 w3 w4 : World} (hiN : i < N) (HD : ArcD N i gout gi gO ms L wr w2 w3) (HG : gO = w.heap.size ∧ gout = w.heap.size + 1) (HO : wr.cell? ⟨gout, 0, none⟩ = some (.slice (some ⟨gO, 0, none⟩) N N)) (HB : Below w.heap.size w wr)
    (hi3 : w3.cell? ⟨gi, 0, none⟩ = some (.int .i64 (i : Int))) (ho3 : w3.cell? ⟨gout, 0, none⟩ = some (.slice (some ⟨gO, 0, none⟩) N N)) (hW4 : (w3.setCell ⟨gO, i, none⟩ (.slice (some ⟨gi + 1, 0, none⟩) N N)).drew = w4) :
    InvA N i gout gi gO (gi + 1) w4 ∧ RowAt w4 (gi + 1) (List.replicate N false) ∧ Below w.heap.size w w4 ∧ w.heap.size ≤ gi + 1 := by
  obtain ⟨hgi, hgO, hL, hLb, hLk, hb2, hb3, ht3, hr3⟩ := HD
  obtain ⟨hg1, hg2⟩ := HG
  have hk4 : KeptO gO gO w3 w4 := by rw [← hW4]; exact ⟨below_drew ((Below.refl _ _).setCell (p := ⟨gO, i, none⟩) (Nat.le_refl _) _), keep_drew ((KeepBut.refl _ _ _).set_ i _)⟩
  have ht4 : w4.heap[gO]? = some (.cells (L.set i (.slice (some ⟨gi + 1, 0, none⟩) N N)).toArray 66 (0, 0)) := by rw [← hW4]; exact blk_set ht3 _
  have hgout : gout < wr.heap.size := World.block_lt_of_cell? wr _ HO
  have n1 : gout ≠ gO := by omega
  have n2 : gi ≠ gO := by omega
  refine ⟨⟨hk4.cell ho3 n1, hk4.cell hi3 n2, ?_, by omega, by omega, by omega⟩, hk4.row hr3 (by omega), (HB.trans ((hb2.trans (hb3.mono hb2.size)).mono HB.size)).trans (hk4.1.mono (by omega)), by have := HB.size; omega⟩
  unfold World.cell?
  rw [ht4]
  simp [show i < L.length by omega]
theorem arc_end {N i gout gi gO : Nat} {ms : List (List Nat)} {L : List Value} {w wr w2 w3 w4 w5 : World} {s4 : List Bool} (hiN : i < N) (HD : ArcD N i gout gi gO ms L wr w2 w3) (HG : gO = w.heap.size ∧ gout = w.heap.size + 1) (HO : wr.cell? ⟨gout, 0, none⟩ = some (.slice (some ⟨gO, 0, none⟩) N N))
    (ho3 : w3.cell? ⟨gout, 0, none⟩ = some (.slice (some ⟨gO, 0, none⟩) N N)) (HX : w4 = (w3.setCell ⟨gO, i, none⟩ (.slice (some ⟨gi + 1, 0, none⟩) N N)).drew ∧ Below w.heap.size w w4) (HS : rowOf N (ms.getD i []) = s4) (HP : RowAt w5 (gi + 1) s4 ∧ KeptO w.heap.size (gi + 1) w4 w5) :
    Aside0 (w5.cell? ⟨gout, 0, none⟩ = some (.slice (some ⟨gO, 0, none⟩) N N)) ∧ Aside0 (TabAt w5 gO N ms (i + 1)) ∧ Aside0 (Below w.heap.size w w5) := by
  obtain ⟨hgi, hgO, hL, hLb, hLk, hb2, hb3, ht3, hr3⟩ := HD
  obtain ⟨hg1, hg2⟩ := HG
  subst HS
  have hgout : gout < wr.heap.size := World.block_lt_of_cell? wr _ HO
  have hk4 : KeptO gO gO w3 w4 := by rw [HX.1]; exact ⟨below_drew ((Below.refl _ _).setCell (p := ⟨gO, i, none⟩) (Nat.le_refl _) _), keep_drew ((KeepBut.refl _ _ _).set_ i _)⟩
  have n1 : gout ≠ gO := by omega
  have n2 : gout ≠ gi + 1 := by omega
  exact ⟨⟨HP.2.cell (hk4.cell ho3 n1) n2⟩, ⟨tab_row hgi hgO hL hiN hLk hb2 hb3 ht3 HX.1 HP⟩, ⟨HX.2.trans HP.2.1⟩⟩
set_option maxHeartbeats 4000000 in
set_option maxRecDepth 100000 in
theorem arcs_walk (ms : List (List Nat)) (N : Nat) (hN : ms.length = N) (h2 : N ≤ 10) (hms : ∀ m ∈ ms, ∀ x ∈ m, x < N) (A0 : Option Addr) (c0 : Nat) (w : World) (hr0 : Kd.C kF w A0 N ms) :
    Calls Try.prog 24 #[.slice A0 N c0] w fun e w' => ∃ gO, e = .returned (.slice (some ⟨gO, 0, none⟩) N N) ∧ ArcsAt w' gO N ms ∧ Below w.heap.size w w' := by
  have HM := Aside0.mk hms
  have HR0 := Aside0.mk hr0
  have HN := Aside0.mk (show ms.length = N ∧ N ≤ 10 from ⟨hN, h2⟩)
  have m61 := mk61 N h2
  have m66 := mk66 N h2
  clear hms hr0 hN h2
  go_enter Try.func24, Try.ntmps24
  go_wp2_with (fail)
  generalize hW : (World.alloc _ _ : World) = w1
  obtain ⟨gO, hgO⟩ : ∃ gO, gO = w.heap.size := ⟨_, rfl⟩
  obtain ⟨gout, hgout⟩ : ∃ gout, gout = w.heap.size + 1 := ⟨_, rfl⟩
  rw [← hgout]
  have h0 : w1.heap[gO]? = some (.cells (List.replicate N (Value.slice none 0 0)).toArray 66 (0, 0)) := by rw [← hW, hgO]; exact alloc2_old w _ _
  have ho1 : w1.cell? ⟨gout, 0, none⟩ = some (.slice (some ⟨gO, 0, none⟩) N N) := by rw [← hW, hgout, hgO]; exact cell_blk (alloc2_new w _ _)
  have hb1 : Below w.heap.size w w1 := by rw [← hW]; exact ((Below.refl _ _).alloc (Nat.le_refl _) _).alloc (by simp) _
  have HO1 := Aside0.mk ho1
  have HB1 := Aside0.mk hb1
  have HT1 := Aside0.mk (show TabAt w1 gO N ms 0 from ⟨_, by simp, h0, fun k hk => absurd hk (Nat.not_lt_zero k)⟩)
  have HG := Aside0.mk (And.intro hgO hgout)
  clear hW h0 ho1 hb1 m61 hgO hgout
  go_loopw [11] (fun v11 wr => ∃ i : Nat, i ≤ N ∧ v11 = .int .i64 (i : Int) ∧ Aside0 (wr.cell? ⟨gout, 0, none⟩ = some (.slice (some ⟨gO, 0, none⟩) N N)) ∧ Aside0 (TabAt wr gO N ms i) ∧ Aside0 (Below w.heap.size w wr)) (fun v11 _ => N - (intOf v11).toNat)
  case atStart => exact ⟨0, by omega, rfl, HO1, HT1, HB1⟩
  case round =>
    clear HO1 HT1 HB1
    obtain ⟨i, hi, rfl, HO, HT, HB⟩ := hrel
    have ho := HO.out
    by_cases hiN : i < N
    · have d1 : decide ((i : Int) < (N : Int)) = true := decide_eq_true (by omega)
      have d1n : (i < N) = True := eq_true hiN
      obtain ⟨ad, e, hcell⟩ := at_scalar HR0.out i hiN (by have := HN.out; omega)
      subst e
      replace hcell := (HB.out.cell (World.block_lt_of_cell? w _ hcell)).trans hcell
      have hil : i < ms.length := by have := HN.out; omega
      have hmi := HM.out ms[i] (List.getElem_mem hil)
      have hmd : ms.getD i [] = ms[i] := by simp [List.getD_eq_getElem?_getD, hil]
      obtain ⟨m, hm⟩ : ∃ m, ms[i] = m := ⟨_, rfl⟩
      rw [hm] at hcell hmi hmd
      have HMI := Aside0.mk (And.intro hmi hmd)
      obtain ⟨V, hV⟩ : ∃ V, combV m = V := ⟨_, rfl⟩
      rw [hV] at hcell
      have HV := Aside0.mk hV
      clear hm hil hmi hmd hV
      go_wp2_with (fail)
      generalize hW : (World.alloc _ _ : World) = w2
      obtain ⟨gi, hgi⟩ : ∃ gi, gi = wr.heap.size := ⟨_, rfl⟩
      rw [← hgi]
      obtain ⟨L, hL, hLb, hLk⟩ := HT.out
      obtain ⟨v0, hv0⟩ : ∃ v0, L[i]? = some v0 := ⟨L[i], List.getElem?_eq_getElem (by omega)⟩
      have hb2 : Below wr.heap.size wr w2 := by rw [← hW]; exact (Below.refl _ _).alloc (Nat.le_refl _) _
      have hi2 : w2.cell? ⟨gi, 0, none⟩ = some (.int .i64 (i : Int)) := by
        rw [← hW]
        refine (World.cell?_alloc_at _ _ _ _ hgi).trans ?_
        rfl
      have ho2 : w2.cell? ⟨gout, 0, none⟩ = some (.slice (some ⟨gO, 0, none⟩) N N) := (hb2.cell (World.block_lt_of_cell? wr _ ho)).trans ho
      have hgO : gO < wr.heap.size := blk_lt hLb
      have ht2 : w2.heap[gO]? = some (.cells L.toArray 66 (0, 0)) := (hb2.block gO hgO).trans hLb
      have hs2 : w2.heap.size = gi + 1 := by rw [← hW, hgi]; simp
      obtain ⟨w3, hw3⟩ : ∃ w3, w2.alloc (.cells (rowV (List.replicate N false)).toArray 65) = w3 := ⟨_, rfl⟩
      have hb3 : Below w2.heap.size w2 w3 := by rw [← hw3]; exact (Below.refl _ _).alloc (Nat.le_refl _) _
      have hi3 : w3.cell? ⟨gi, 0, none⟩ = some (.int .i64 (i : Int)) := (hb3.cell (World.block_lt_of_cell? w2 _ hi2)).trans hi2
      have ho3 : w3.cell? ⟨gout, 0, none⟩ = some (.slice (some ⟨gO, 0, none⟩) N N) := (hb3.cell (World.block_lt_of_cell? w2 _ ho2)).trans ho2
      have ht3 : w3.heap[gO]? = some (.cells L.toArray 66 (0, 0)) := (hb3.block gO (by omega)).trans ht2
      have hc3 : w3.cell? ⟨gO, i, none⟩ = some v0 := by
        unfold World.cell?
        rw [ht3]
        simpa using hv0
      have hf3 : w3.frozen? ⟨gO, i, none⟩ = false := by simp [World.frozen?, ht3]
      have hr3 : RowAt w3 (gi + 1) (List.replicate N false) := by rw [← hw3, ← hs2]; exact alloc1_newT w2 _
      have HD := Aside0.mk (show ArcD N i gout gi gO ms L wr w2 w3 from ⟨hgi, hgO, hL, hLb, hLk, hb2, hb3, ht3, hr3⟩)
      have HI3 := Aside0.mk (And.intro hi3 ho3)
      have HI1 := Aside0.mk (show i + 1 ≤ N from hiN)
      have HMS := Aside0.mk (mstepA hiN (show N ≤ 1000 by have := HN.out; omega))
      have HVI := Aside0.mk (vI (show i ≤ 1000000 by have := HN.out; omega))
      rw [← hw3] at hi3 ho3 hc3 hf3
      have HW3 := Aside0.mk hw3
      clear hgi hgO hL hLb hLk hb2 hb3 ht3 hr3 hv0 hW ho hcell ht2 hw3
      go_region_law (fail)
      all_goals
        rw [HW3.out]
        generalize hW4 : (World.drew _ : World) = w4
        obtain ⟨hI4, hr4, hb4, hgw⟩ := arc_start hiN HD.out HG.out HO.out HB.out HI3.out.1 HI3.out.2 hW4
        have HX := Aside0.mk (And.intro hW4.symm hb4)
        have HLT := Lib.hid (comb_let N i gout gi gO (gi + 1) w.heap.size hiN hgw HN.out.2 m HMI.out.1 (List.replicate N false) (by simp) w4 hb4.size hI4 hr4)
        have HRO := Aside0.mk (show setAll m (List.replicate N false) = rowOf N (ms.getD i []) by rw [HMI.out.2]; rfl)
        rw [HRO.out] at HLT
        have e1 : wrap64 ((i : Int) + 1) = ((i + 1 : Nat) : Int) := wI (by have := HN.out; omega)
        obtain ⟨s4, hs4⟩ : ∃ s4, rowOf N (ms.getD i []) = s4 := ⟨_, rfl⟩
        have HS4 := Aside0.mk hs4
        rw [hs4] at HLT
        unfold visV at HLT
        clear hI4 hr4 hb4 hgw hi2 ho2 hs2 hi3 ho3 hc3 hf3 hW4 hs4
        have hcase : m = [] ∨ (∃ x, m = [x]) ∨ ∃ x y r, m = x :: y :: r := by
          rcases m with _ | ⟨x, _ | ⟨y, r⟩⟩
          · exact .inl rfl
          · exact .inr (.inl ⟨x, rfl⟩)
          · exact .inr (.inr ⟨x, y, r, rfl⟩)
        rcases hcase with rfl | ⟨x, rfl⟩ | ⟨x, y, r, rfl⟩
        · have hV' : V = .iface 109 (.int .u8 49) := by rw [← HV.out]; rfl
          subst hV'
          replace HLT := Lib.hid (show Calls Try.prog 79 #[.int .u8 49, .bool false, .bool false, (.func (.func 40) #[] #[.pointer (some ⟨gout, 0, none⟩), .pointer (some ⟨gi, 0, none⟩)])] w4 (LetPost w.heap.size (gi + 1) s4 w4) from HLT.out)
          go_wp2_with (fail)
          refine HLT.out.mono ?_; rintro e w5 ⟨rfl, hp⟩
          have HP := Aside0.mk hp
          clear hp HLT
          have ho5 := HP.out
          go_wp2_with (fail)
          exact ⟨⟨i + 1, HI1.out, HVI.out, arc_end hiN HD.out HG.out HO.out HI3.out.2 HX.out HS4.out HP.out⟩, HMS.out⟩
        · have hV' : V = .iface 112 (.agg #[.iface 110 (.int .i64 (x : Int))]) := by rw [← HV.out]; rfl
          subst hV'
          replace HLT := Lib.hid (show Calls Try.prog 83 #[.agg #[.iface 110 (.int .i64 (x : Int))], .bool false, .bool false, (.func (.func 40) #[] #[.pointer (some ⟨gout, 0, none⟩), .pointer (some ⟨gi, 0, none⟩)])] w4 (LetPost w.heap.size (gi + 1) s4 w4) from HLT.out)
          go_wp2_with (fail)
          refine HLT.out.mono ?_; rintro e w5 ⟨rfl, hp⟩
          have HP := Aside0.mk hp
          clear hp HLT
          have ho5 := HP.out
          go_wp2_with (fail)
          exact ⟨⟨i + 1, HI1.out, HVI.out, arc_end hiN HD.out HG.out HO.out HI3.out.2 HX.out HS4.out HP.out⟩, HMS.out⟩
        · have hV' : V = .iface 114 (.agg #[.iface 112 (.agg #[.iface 110 (.int .i64 (x : Int))]), combV (y :: r), .int .u8 38]) := by rw [← HV.out]; rfl
          subst hV'
          replace HLT := Lib.hid (show Calls Try.prog 86 #[.agg #[.iface 112 (.agg #[.iface 110 (.int .i64 (x : Int))]), combV (y :: r), .int .u8 38], .bool false, .bool false, (.func (.func 40) #[] #[.pointer (some ⟨gout, 0, none⟩), .pointer (some ⟨gi, 0, none⟩)])] w4 (LetPost w.heap.size (gi + 1) s4 w4) from HLT.out)
          generalize combV (y :: r) = Y at HLT ⊢
          go_wp2_with (fail)
          refine HLT.out.mono ?_; rintro e w5 ⟨rfl, hp⟩
          have HP := Aside0.mk hp
          clear hp HLT
          have ho5 := HP.out
          go_wp2_with (fail)
          exact ⟨⟨i + 1, HI1.out, HVI.out, arc_end hiN HD.out HG.out HO.out HI3.out.2 HX.out HS4.out HP.out⟩, HMS.out⟩
    · have d1 : decide ((i : Int) < (N : Int)) = false := decide_eq_false (by omega)
      have d1n : (i < N) = False := eq_false hiN
      obtain rfl : i = N := by omega
      clear hi hiN
      go_wp2_with (fail)
      go_ret
      refine ⟨gO, rfl, ?_, HB.out⟩
      obtain ⟨L, hl, hb, hk⟩ := HT.out
      intro k hk2
      obtain ⟨g, _, h2, h3⟩ := hk k hk2
      refine ⟨g, ?_, h3⟩
      unfold World.cell?
      rw [hb]
      simpa using h2
end Go.Proofs.Ytagmadfllfcloaa.PC
end
section
set_option linter.unusedVariables false
set_option linter.unusedSimpArgs false
/- slices.Index and slices.Contains over ints: the walks; the search for an odd cycle, plainly. -/
namespace Go.Proofs.Ytagmadfllfcloaa.PC
open Go.RowKit Go.Proofs.YtagmadfllfcloaaW.PrintWords Go.Proofs.YtagmadfllfcloaaW.PrintLast Go.Proofs.YtagmadfllfcloaaW.PrintMore
set_option linter.unusedVariables false
set_option linter.unusedSimpArgs false
theorem index_walk (A : Option Addr) (L c : Nat) (l : List Int) (x : Int) (w : World) (hr : Kd.C (Kd.int .i64) w A L l) (hL : L ≤ 100) :
    Calls Try.prog 41 #[.slice A L c, .int .i64 x] w fun e w' => ∃ v : Int, e = .returned (.int .i64 v) ∧ (0 ≤ v ↔ x ∈ l) ∧ w' = w := by
  have HR := Aside0.mk hr
  have HL := Aside0.mk (show l.length = L ∧ L ≤ 100 from ⟨hr.1, hL⟩)
  clear hr hL
  go_enter Try.func41, Try.ntmps41
  go_wp2
  go_loop [8] (fun v8 => ∃ i : Nat, i ≤ L ∧ v8 = .int .i64 (i : Int) ∧ Aside0 (x ∉ l.take i)) (fun v8 => L - (intOf v8).toNat)
  case atStart => exact ⟨0, by omega, rfl, ⟨by simp⟩⟩
  case round =>
    obtain ⟨i, hi, rfl, HX⟩ := hrel
    by_cases hiL : i < L
    · have d1 : decide ((i : Int) < (L : Int)) = true := decide_eq_true (by omega)
      have d1n : (i < L) = True := eq_true hiL
      obtain ⟨ad, e, hcell⟩ := at_scalar HR.out i hiL (by have := HL.out; omega)
      subst e
      have hil : i < l.length := by have := HL.out; omega
      have HTK := Aside0.mk (show l.take (i + 1) = l.take i ++ [l[i]] from (List.take_succ_eq_append_getElem hil))
      have HMM := Aside0.mk (List.getElem_mem hil)
      obtain ⟨y, hy⟩ : ∃ y, l[i] = y := ⟨_, rfl⟩
      rw [hy] at hcell HTK HMM
      clear hil hy
      by_cases hxy : x = y
      · have e1 : (x == y) = true := beq_iff_eq.2 hxy
        have e1n : (x = y) = True := eq_true hxy
        have HXY := Aside0.mk hxy
        clear hxy
        go_wp2_with (fail)
        go_ret
        exact ⟨_, rfl, ⟨fun _ => by first | exact HMM.out | (rw [HXY.out]; exact HMM.out), fun _ => by omega⟩, rfl⟩
      · have e1 : (x == y) = false := beq_eq_false_iff_ne.2 hxy
        have e1n : (x = y) = False := eq_false hxy
        have HXY := Aside0.mk hxy
        clear hxy
        go_wp2_with (fail)
        exact ⟨⟨i + 1, by omega, vI (by have := HL.out; omega), ⟨by rw [HTK.out, List.mem_append, List.mem_singleton]; exact fun h => h.elim HX.out HXY.out⟩⟩, mstepA hiL (by have := HL.out; omega)⟩
    · have d1 : decide ((i : Int) < (L : Int)) = false := decide_eq_false (by omega)
      have d1n : (i < L) = False := eq_false hiL
      have HN := Aside0.mk (show x ∉ l by have h := HX.out; rwa [List.take_of_length_le (by have := HL.out; omega)] at h)
      go_wp2_with (fail)
      go_ret
      exact ⟨_, rfl, ⟨fun h => by omega, fun h => absurd h HN.out⟩, rfl⟩
theorem contains_walk (A : Option Addr) (L c : Nat) (l : List Int) (x : Int) (w : World) (hr : Kd.C (Kd.int .i64) w A L l) (hL : L ≤ 100) :
    Calls Try.prog 26 #[.slice A L c, .int .i64 x] w fun e w' => e = .returned (.bool (decide (x ∈ l))) ∧ w' = w := by
  have HI := Lib.hid (index_walk A L c l x w hr hL)
  clear hr hL
  obtain ⟨b, hb⟩ : ∃ b, decide (x ∈ l) = b := ⟨_, rfl⟩
  rw [hb]
  have HB := Aside0.mk hb
  clear hb
  go_enter Try.func26, Try.ntmps26
  go_wp2_with (fail)
  refine HI.out.mono ?_; rintro e wa ⟨v, rfl, hv, rfl⟩
  go_wp2_with (fail)
  go_ret
  refine ⟨?_, rfl⟩
  rw [← HB.out]
  rfl
/-- The last and the first of a way. -/
def lastN (way : List Int) : Nat := (way.getD (way.length - 1) 0).toNat
def firstN (way : List Int) : Nat := (way.getD 0 0).toNat
/-- The search from a way: the first way of so many steps more that comes home. -/
def srch (o : List Nat) : Nat → List Int → Option (List Int)
  | 0, way => if (o.getD (lastN way) 0).testBit (firstN way) then some way else none
  | d + 1, way => (memI (o.getD (lastN way) 0)).findSome? fun j => if j ∈ way then none else srch o d (way ++ [j])
/-- The first person's first way of this length. -/
def srchAt (n : Nat) (o : List Nat) (long : Nat) : Option (List Int) := (List.range n).findSome? fun i : Nat => srch o (long - 1) [(i : Int)]
/-- A shortest odd cycle, and the error. -/
def oddF (n : Nat) (o : List Nat) : List Int × Int :=
  match (List.range n).findSome? (fun k => if k % 2 = 0 then srchAt n o (k + 1) else none) with
  | some l => (l, 0)
  | none => ([], 10)
end Go.Proofs.Ytagmadfllfcloaa.PC
end
section
set_option linter.unusedVariables false
set_option linter.unusedSimpArgs false
/- append(way[:len(way):len(way)], j): the list that comes out is one of its own. -/
namespace Go.Proofs.Ytagmadfllfcloaa.PC
open Go.RowKit Go.Proofs.YtagmadfllfcloaaW.PrintWords Go.Proofs.YtagmadfllfcloaaW.PrintLast Go.Proofs.YtagmadfllfcloaaW.PrintMore
set_option linter.unusedSimpArgs false
theorem step_cut_own {P : Program} {ops : Array Oper} {o : Oper} {a : Act} {K : Act → World → Prop} {Q : Exit → Act → World → Prop} {E : Prop} {W : World} (hgd : o.guard = none) (s x : Operand) (t : TypeId)
    (ho : o.op = .call { callee := .builtin .append, args := #[s, x], argTypes := #[t, t] }) (ht : P.underlying t = some (.slice 3)) (hinfo : (P.info? 3).map (fun i => (i.zero, i.size, i.bytes)) = some (some (.int .i64 0), 1, 8))
    (A : Option Addr) (l : List Int) (m : Nat) (hlm : l.length = m) (hl100 : m ≤ 100) (v : Int) (hs : a.eval s = .slice A m m) (hx : a.eval x = .slice (some ⟨W.heap.size, 0, none⟩) 1 1) (hC : Kd.C (Kd.int .i64) W A m l)
    (h : ∀ v1 w1, Kd.R (Kd.int .i64) 3 w1 W.heap.size (fun _ => True) v1 (l ++ [v]) → Below W.heap.size W w1 → K (a.put o.dst v1) w1) :
    if Region.wanted o (yielded ops a.tmps) = true then Oper.wp P o a (W.alloc (.cells #[.int .i64 v] 3)) K Q else E := by
  rw [← hlm] at hC
  have hA : A = none → l.length = 0 := fun e => by
    cases Nat.eq_zero_or_pos l.length with
    | inl h0 => exact h0
    | inr h0 =>
      obtain ⟨ad, ea, _⟩ := Kd.at_int hC 0 (by omega) (by omega)
      rw [e] at ea; cases ea
  have htk : l.take m = l := List.take_of_length_le (by omega)
  rw [← htk] at h
  have hlt : (l.take m).length = m := by rw [List.length_take]; omega
  cases hi : P.info? 3 with
  | none => rw [hi] at hinfo; cases hinfo
  | some inf =>
    rw [hi] at hinfo
    simp only [Option.map_some, Option.some.injEq, Prod.mk.injEq] at hinfo
    obtain ⟨j1, j2, j3⟩ := hinfo
    have hC' := Kd.C_alloc hC (.cells #[.int .i64 v] 3)
    refine step_append_grows (w := W.alloc (.cells #[.int .i64 v] 3)) hgd s x t ho 3 inf (.int .i64 0) 1 8 ht hi j1 j2 j3 rfl (by decide) A m m (nums .i64 (l.take m)) hs (fun e => by have := hA e; omega) (by simp [nums]; omega) (fun b hb j u hu => ?_) ⟨W.heap.size, 0, none⟩ 1 1 [.int .i64 v] hx rfl (fun j u hu => ?_) (fun u hu => ?_) (by omega) (by unfold maxLen; omega) (by omega) ?_
    · obtain ⟨hj, e⟩ := List.getElem?_eq_some_iff.1 hu
      have hj2 : j < m := by simp [nums] at hj; omega
      obtain ⟨ad, ea, hc⟩ := Kd.at_int hC' (j : Int) (by omega) (by omega)
      rw [hb] at ea
      injection ea with ea
      subst ea
      rw [Int.toNat_natCast] at hc
      rw [hc, ← e]
      simp [nums, rd, List.getD_eq_getElem?_getD, hj2, show j < l.length by omega]
    · obtain ⟨hj, e⟩ := List.getElem?_eq_some_iff.1 hu
      have : j = 0 := by simp at hj; omega
      subst this
      rw [← e]
      show (W.alloc (.cells #[.int .i64 v] 3)).cell? ⟨W.heap.size, 0, none⟩ = _
      rw [World.cell?_alloc_at _ _ _ _ rfl]; rfl
    · rcases List.mem_cons.1 hu with rfl | hu
      · rfl
      · cases hu
    · intro v' w' ho' hg
      have hsz : (W.alloc (.cells #[.int .i64 v] 3)).heap.size = W.heap.size + 1 := by simp
      have hb0 : Below W.heap.size W (W.alloc (.cells #[.int .i64 v] 3)) := (Below.refl _ W).alloc (Nat.le_refl _) _
      have hb1 : Below W.heap.size (W.alloc (.cells #[.int .i64 v] 3)) w' := ⟨hg.os, hg.tape, hg.output, by have := hg.size; omega, fun k hk => hg.block k (by omega) (by simp)⟩
      refine h v' w' ?_ (hb0.trans hb1)
      have e : nums .i64 (l.take m) ++ [.int .i64 v] = encs (fun n : Int => Value.int .i64 n) (l.take m ++ [v]) := by simp [nums, encs]
      rw [e] at ho'
      have hlen : (l.take m ++ [v]).length = m + 1 := by simp [hlt]
      rw [← hlen] at ho'
      exact Kd.R_lower (Kd.R_of_own (ok := fun _ => True) ho' (fun _ _ => trivial)) (by omega)
end Go.Proofs.Ytagmadfllfcloaa.PC
end
section
set_option linter.unusedVariables false
set_option linter.unusedSimpArgs false
/- shave.Odd: the walks. -/
namespace Go.Proofs.Ytagmadfllfcloaa.PC
open Go.RowKit Go.Proofs.YtagmadfllfcloaaW.PrintWords Go.Proofs.YtagmadfllfcloaaW.PrintLast Go.Proofs.YtagmadfllfcloaaW.PrintMore
set_option linter.unusedVariables false
set_option linter.unusedSimpArgs false
attribute [local go_sem] run_store_func
theorem sl_neq (A : Option Addr) (n c : Nat) (w : World) : Sem.run Try.prog (binOp .neq 23 (.slice A n c) (.slice none 0 0)) w = Result.ok (.bool (!A.isNone)) w := by
  cases A <;> kernel_rfl
attribute [local go_sem] sl_neq
/-- What stands still while ways are searched. -/
structure InvO (n : Nat) (o : List Nat) (gl gon gt long : Nat) (W : World) : Prop where
  l : W.cell? ⟨gl, 0, none⟩ = some (.int .i64 (long : Int))
  on : W.cell? ⟨gon, 0, none⟩ = some (.func (.func 27) #[] #[.pointer (some ⟨gt, 0, none⟩), .pointer (some ⟨gl, 0, none⟩), .pointer (some ⟨gon, 0, none⟩)])
  t : TownAt W gt (n : Int) o
theorem InvO.below {n : Nat} {o : List Nat} {gl gon gt long : Nat} {W W1 : World} (h : InvO n o gl gon gt long W) (hb : Below W.heap.size W W1) : InvO n o gl gon gt long W1 :=
  ⟨(hb.cell (World.block_lt_of_cell? W _ h.l)).trans h.l, (hb.cell (World.block_lt_of_cell? W _ h.on)).trans h.on, h.t.below hb⟩
/-- What the search tells. -/
def SrchPost (r : Option (List Int)) (w : World) (e : Ending) (w' : World) : Prop :=
  Below w.heap.size w w' ∧ match r with
    | none => e = .returned (.slice none 0 0)
    | some l => 1 ≤ l.length ∧ l.length ≤ 12 ∧ ∃ ad c, e = .returned (.slice (some ad) l.length c) ∧ Kd.C (Kd.int .i64) w' (some ad) l.length l
def SrchVal (r : Option (List Int)) (w' : World) (A : Option Addr) (n c : Nat) : Prop := match r with
  | none => A = none ∧ n = 0 ∧ c = 0
  | some l => 1 ≤ l.length ∧ l.length ≤ 12 ∧ n = l.length ∧ ∃ ad, A = some ad ∧ Kd.C (Kd.int .i64) w' (some ad) l.length l
theorem srch_shape {r : Option (List Int)} {w w' : World} {e : Ending} (h : SrchPost r w e w') :
    ∃ A n c, e = .returned (.slice A n c) ∧ Aside0 (Below w.heap.size w w') ∧ Aside0 (SrchVal r w' A n c) := by
  obtain ⟨hb, h⟩ := h
  cases r with
  | none => exact ⟨none, 0, 0, h, ⟨hb⟩, ⟨rfl, rfl, rfl⟩⟩
  | some l => obtain ⟨h1, h2, ad, c, he, hc⟩ := h; exact ⟨some ad, l.length, c, he, ⟨hb⟩, ⟨h1, h2, rfl, ad, rfl, hc⟩⟩
/-- A way: people, not too many. -/
def WayOk (way : List Int) : Prop := 1 ≤ way.length ∧ way.length ≤ 12 ∧ ∀ x ∈ way, 0 ≤ x ∧ x < 12
theorem info3c : (Try.prog.info? 3).map (fun i => (i.zero, i.size, i.bytes)) = some (some (.int .i64 0), 1, 8) := by kernel_rfl
set_option maxHeartbeats 16000000 in
set_option maxRecDepth 100000 in
theorem odd_on (n : Nat) (hn : n ≤ 12) (o : List Nat) (ho : o.length = 12) (hlt : ∀ j, o.getD j 0 < 4096) (gl gon gt long : Nat) (hlong : long ≤ 12) : ∀ (d : Nat) (way : List Int) (hd : way.length + d = long) (hw : WayOk way) (A : Option Addr) (c : Nat) (w : World) (hc : Kd.C (Kd.int .i64) w A way.length way) (hcap : way.length ≤ c) (hI : InvO n o gl gon gt long w),
    Calls Try.prog 27 #[.slice A way.length c, .pointer (some ⟨gt, 0, none⟩), .pointer (some ⟨gl, 0, none⟩), .pointer (some ⟨gon, 0, none⟩)] w (SrchPost (srch o d way) w) := by
  intro d
  induction d using Nat.strongRecOn with
  | ind d ih =>
  intro way hd hw A c w hc hcap hI
  have HIH := Lib.hid (fun (d' : Nat) (h : d' + 1 = d) (j : Int) (hj : WayOk (way ++ [j])) (N : Nat) (hN : (way ++ [j]).length = N) (A : Option Addr) (c : Nat) (wr : World) (hc : Kd.C (Kd.int .i64) wr A N (way ++ [j])) (hcap : N ≤ c) (hI : InvO n o gl gon gt long wr) =>
    show Calls Try.prog 27 #[.slice A N c, .pointer (some ⟨gt, 0, none⟩), .pointer (some ⟨gl, 0, none⟩), .pointer (some ⟨gon, 0, none⟩)] wr (SrchPost (srch o d' (way ++ [j])) wr) by
      subst hN
      exact ih d' (by omega) (way ++ [j]) (by rw [List.length_append, List.length_singleton]; omega) hj A c wr hc hcap hI)
  have HCO := Lib.hid (fun (x : Int) (wr : World) hr => contains_walk A way.length c way x wr hr (Nat.le_trans hw.2.1 (by decide)))
  obtain ⟨L, hL⟩ : ∃ L, way.length = L := ⟨_, rfl⟩
  obtain ⟨M, hM⟩ : ∃ M, L = M + 1 := ⟨L - 1, by have := hw.1; omega⟩
  obtain ⟨ad, hA, hx⟩ := at_scalar hc M (by omega) (by omega)
  obtain ⟨ad', hA', hf⟩ := at_scalar hc 0 (by omega) (by omega)
  obtain rfl : ad = ad' := by rw [hA] at hA'; exact Option.some.inj hA'
  subst hA
  have hxin := hw.2.2 way[M] (List.getElem_mem _)
  have hfin := hw.2.2 way[0] (List.getElem_mem _)
  have hln : lastN way = way[M].toNat := by
    have h1 : way.length - 1 = M := by omega
    unfold lastN
    rw [h1]
    simp [List.getD_eq_getElem?_getD, show M < way.length by omega]
  have hfn : firstN way = way[0].toNat := by unfold firstN; simp [List.getD_eq_getElem?_getD, show 0 < way.length by omega]
  obtain ⟨x, hxx⟩ : ∃ x, way[M] = x := ⟨_, rfl⟩
  obtain ⟨f, hff⟩ : ∃ f, way[0] = f := ⟨_, rfl⟩
  rw [hxx] at hx hxin hln
  rw [hff] at hf hfin hfn
  obtain ⟨X, rfl⟩ := Int.eq_ofNat_of_zero_le hxin.1
  obtain ⟨F, rfl⟩ := Int.eq_ofNat_of_zero_le hfin.1
  rw [Int.toNat_natCast] at hln hfn
  have hX12 : X < 12 := by omega
  have hF12 : F < 12 := by omega
  have hto := hI.t.at X (by omega)
  obtain ⟨T, hT⟩ : ∃ T, o.getD X 0 = T := ⟨_, rfl⟩
  have hT4 : T < 4096 := by rw [← hT]; exact hlt X
  rw [hT] at hto
  have HM := Lib.hid (fun wr => members_calls T hT4 wr)
  have hll := hI.l
  have k1 : (L ≤ c) = True := eq_true (by omega)
  have k2 : ((L : Int) ≤ (c : Int)) = True := eq_true (by omega)
  have k3 : decide ((L : Int) ≤ (c : Int)) = true := decide_eq_true (by omega)
  have k4 : (0 : Int) ≤ (L : Int) := by omega
  have e1 : wrap64 ((L : Int) - 1) = (M : Int) := by unfold wrap64; omega
  have e1' : IntKind.i64.wrap ((L : Int) - 1) = (M : Int) := (i64_w _).trans e1
  have b1 : decide ((M : Int) < (L : Int)) = true := decide_eq_true (by omega)
  have b1n : (M < L) = True := eq_true (by omega)
  have b0n : (0 < L) = True := eq_true (by omega)
  have HS := Aside0.mk (And.intro hd (And.intro hL hM))
  have HL12 := Aside0.mk (show L ≤ 12 by have := hw.2.1; omega)
  have HW := Aside0.mk hw
  have HI0 := Aside0.mk hI
  have HC := Aside0.mk hc
  have HLF := Aside0.mk (And.intro hln hfn)
  have HTT := Aside0.mk (And.intro hT hT4)
  have b2n : (X < 12) = True := eq_true hX12
  have b2 : decide ((X : Int) < 12) = true := decide_eq_true (by omega)
  have b3 : ((X : Int) < 12) = True := eq_true (by omega)
  have HX := Aside0.mk (And.intro hX12 hF12)
  rw [hL] at HC HCO ⊢
  clear hcap ih hd hw hc hI hA' hxin hfin hln hfn hxx hff hM hT hT4 hlt hX12 hF12 hL
  have HLW := Aside0.mk HS.out.2.1
  have HL100 := Aside0.mk (Nat.le_trans HL12.out (by decide : 12 ≤ 100))
  go_enter Try.func27, Try.ntmps27
  have hf0 : w.cell? ad = some (.int .i64 (F : Int)) := by rw [← hf]; rfl
  by_cases hd0 : d = 0
  · subst hd0
    obtain rfl : L = long := by have := HS.out; omega
    have e3 : bits .and .i64 ((T : Int) / 2 ^ F) 1 = if T.testBit F then 1 else 0 := by
      have e : ((T : Int) / 2 ^ F) = ((T / 2 ^ F : Nat) : Int) := by push_cast; rfl
      rw [e]
      exact bit_val T F (by have := HTT.out.2; omega)
    have hf64 : (F < 64) = True := eq_true (lt64 HX.out.2)
    have hmn : min F 64 = F := Nat.min_eq_left (Nat.le_of_lt (lt64 HX.out.2))
    have hsr : srch o 0 way = if T.testBit F then some way else none := by unfold srch; rw [HLF.out.1, HLF.out.2, HTT.out.1]
    cases hb : T.testBit F with
    | true =>
      rw [hb, if_pos rfl] at e3 hsr
      have HSR := Aside0.mk hsr
      clear hsr hb HIH HCO HM
      go_wp2_with (fail)
      go_ret
      rw [HSR.out]
      exact ⟨Below.refl _ _, HW.out.1, HW.out.2.1, ad, c, by rw [HS.out.2.1]; rfl, by rw [HS.out.2.1]; exact HC.out⟩
    | false =>
      rw [hb, if_neg (by decide)] at e3 hsr
      have HSR := Aside0.mk hsr
      clear hsr hb HIH HCO HM
      go_wp2_with (fail)
      go_ret
      rw [HSR.out]
      exact ⟨Below.refl _ _, rfl⟩
  obtain ⟨d', rfl⟩ : ∃ d', d = d' + 1 := ⟨d - 1, by omega⟩
  have c1 : ((L : Int) == (long : Int)) = false := beq_eq_false_iff_ne.2 (by have := HS.out; omega)
  have c1n : (L = long) = False := eq_false (by have := HS.out; omega)
  clear hd0
  go_wp2_with (fail)
  refine (HM.out _).mono ?_; rintro e wa ⟨v0, rfl, hr, hb⟩
  obtain ⟨A2, c2, rfl⟩ := Kd.R_slice hr
  have hsr : srch o (d' + 1) way = (memI T).findSome? fun j => if j ∈ way then none else srch o d' (way ++ [j]) := by rw [srch, HLF.out.1, HTT.out.1]
  have hmem : ∀ j ∈ memI T, 0 ≤ j ∧ j < 12 := fun j hj => by
    obtain ⟨y, hy, rfl⟩ := List.mem_map.1 hj
    have := memN_lt hy
    omega
  have hml : (memI T).length ≤ 12 := by unfold memI memN; rw [List.length_map]; exact Nat.le_trans (List.length_filter_le _ _) (by simp)
  obtain ⟨ml, hmm⟩ : ∃ ml, memI T = ml := ⟨_, rfl⟩
  rw [hmm] at hr hsr hmem hml ⊢
  have HSR := Aside0.mk hsr
  have HMM := Aside0.mk hmem
  have HC2 := Aside0.mk (Kd.R_reads' hr).2.2
  have HB := Aside0.mk hb
  obtain ⟨K, hK⟩ : ∃ K, ml.length = K := ⟨_, rfl⟩
  rw [hK] at hml HC2 ⊢
  have HK := Aside0.mk (And.intro hK hml)
  clear hsr hmem hmm hr hb hK hml HM
  go_wp2_with (fail)
  go_loopw [34] (fun v34 wr => ∃ i : Nat, i ≤ K ∧ v34 = .int .i64 (i : Int) ∧ Aside0 (Below wa.heap.size wa wr) ∧ Aside0 (srch o (d' + 1) way = (ml.drop i).findSome? fun j => if j ∈ way then none else srch o d' (way ++ [j]))) (fun v34 _ => K - (intOf v34).toNat)
  case atStart => exact ⟨0, by omega, rfl, ⟨Below.refl _ _⟩, HSR⟩
  case round =>
    clear HSR hf0 hx hf hto hll
    obtain ⟨i, hi, rfl, HBW, HSR⟩ := hrel
    have HBA := Aside0.mk (HB.out.trans (HBW.out.mono HB.out.size))
    by_cases hiK : i < K
    · have d1 : decide ((i : Int) < (K : Int)) = true := decide_eq_true (by omega)
      have d1n : (i < K) = True := eq_true hiK
      obtain ⟨ad2, e, hcell⟩ := at_scalar HC2.out i hiK (by have := HK.out; omega)
      subst e
      replace hcell := (HBW.out.cell (World.block_lt_of_cell? wa _ hcell)).trans hcell
      have hil : i < ml.length := by have := HK.out; omega
      have hdr : ml.drop i = ml[i] :: ml.drop (i + 1) := List.drop_eq_getElem_cons hil
      have hjm := HMM.out ml[i] (List.getElem_mem _)
      obtain ⟨j, hj⟩ : ∃ j, ml[i] = j := ⟨_, rfl⟩
      rw [hj] at hcell hdr hjm
      have HS1 := HSR.out
      rw [hdr, List.findSome?_cons] at HS1
      have HJ := Aside0.mk hjm
      have hcw := Kd.C_below HC.out HBA.out
      have HCW := Aside0.mk hcw
      have HX1 := Lib.hid (HCO.out j wr hcw)
      have HSN := Aside0.mk HS1
      have HI1 := Aside0.mk (HI0.out.below HBA.out)
      clear HS1 hdr hjm hj hil hcw HSR
      by_cases hjw : j ∈ way
      · have e4 : decide (j ∈ way) = true := decide_eq_true hjw
        rw [e4] at HX1
        have HSN2 := HSN.out
        rw [if_pos hjw] at HSN2
        have HSN3 := Aside0.mk HSN2
        clear HSN HSN2 hjw e4
        go_wp2_with (fail)
        refine HX1.out.mono ?_; rintro e wb ⟨rfl, rfl⟩
        go_wp2_with (fail)
        go_roundw
        case rel => exact ⟨i + 1, by omega, vI (by have := HK.out; omega), HBW, HSN3⟩
        case measure => exact mstepA hiK (by have := HK.out; omega)
      · have e4 : decide (j ∈ way) = false := decide_eq_false hjw
        rw [e4] at HX1
        have HSN2 := HSN.out
        rw [if_neg hjw] at HSN2
        have HSN3 := Aside0.mk HSN2
        have hon := HI1.out.on
        clear HSN HSN2 hjw e4
        go_wp2_with (fail)
        refine HX1.out.mono ?_; rintro e wb ⟨rfl, rfl⟩
        go_wp2_with (fail)
        have HWJ := Aside0.mk (show WayOk (way ++ [j]) from ⟨by simp, by have := HS.out; have := hlong; rw [List.length_append, List.length_singleton]; omega, fun y hy => by rcases List.mem_append.1 hy with h | h; exact HW.out.2.2 y h; rw [List.mem_singleton] at h; rw [h]; exact HJ.out⟩)
        have hon2 := (HI1.out.below ((Below.refl _ wb).alloc (Nat.le_refl _) (.cells #[.int .i64 j] 3))).on
        have HLJ := Aside0.mk (show (way ++ [j]).length = L + 1 by rw [List.length_append, List.length_singleton, HLW.out])
        go_region_law (first
          | (refine step_cut_own (W := wb.drew) rfl (.tmp 48) (.tmp 50) 23 rfl Try.underlying23 info3c (some ad) way L HLW.out HL100.out j (by simp [Act.eval, Act.put]) (by simp [Act.eval, Act.put]) ?hC ?_; (case hC => exact Kd.C_drew HCW.out); intro v51 w51 ho51 hb51; obtain ⟨A51, c51, e51, hl51, hc51⟩ := Kd.R_reads ho51; rw [HLJ.out] at e51 hl51 hc51; subst e51; have HB51 := Aside0.mk hb51; have HC51 := Aside0.mk (And.intro hl51 hc51); have hon51 := ((HI1.out.below ((Below.refl _ _).drew)).below HB51.out).on; clear hb51 hl51 hc51 ho51)
          | (go_simp; refine (HIH.out d' rfl j HWJ.out (L + 1) HLJ.out A51 c51 w51 HC51.out.2 HC51.out.1 ((HI1.out.below ((Below.refl _ _).drew)).below HB51.out)).mono ?_; intro e w52 hp52; obtain ⟨A52, n52, c52, rfl, HB52, HP52⟩ := srch_shape hp52; clear hp52))
        all_goals
          have hbw := HBA.out.trans ((((Below.refl wb.heap.size wb).drew.trans (HB51.out.mono (Nat.le_refl _))).trans (HB52.out.mono HB51.out.size)).mono HBA.out.size)
          have HBF := Aside0.mk hbw
          obtain ⟨r, hr⟩ : ∃ r, srch o d' (way ++ [j]) = r := ⟨_, rfl⟩
          have hs3 := HSN3.out
          have hp3 := HP52.out
          rw [hr] at hs3 hp3
          clear HSN3 HP52 hbw hr
          cases r with
          | none =>
            have HS4 := Aside0.mk hs3
            have e0 : A52.isNone = true := by rw [hp3.1]; rfl
            clear hs3 hp3
            go_wp2_with (fail)
            go_roundw
            case rel => exact ⟨i + 1, by omega, vI (by have := HK.out; omega), ⟨(HBW.out.trans ((((Below.refl wb.heap.size wb).drew.trans (HB51.out.mono (Nat.le_refl _))).trans (HB52.out.mono HB51.out.size)).mono HBW.out.size))⟩, HS4⟩
            case measure => exact mstepA hiK (by have := HK.out; omega)
          | some l =>
            have HS4 := Aside0.mk hs3
            have e0 : A52.isNone = false := by obtain ⟨_, _, _, ad5, e, _⟩ := hp3; rw [e]; rfl
            have HC5 := Aside0.mk hp3
            clear hs3 hp3
            go_wp2_with (fail)
            go_ret
            obtain ⟨hl1, hl2, rfl, ad5, rfl, hc5⟩ := HC5.out
            rw [HS4.out]
            exact ⟨HBF.out, hl1, hl2, ad5, c52, rfl, hc5⟩
    · have d1 : decide ((i : Int) < (K : Int)) = false := decide_eq_false (by omega)
      have d1n : (i < K) = False := eq_false hiK
      have HSN := HSR.out
      rw [List.drop_eq_nil_of_le (by have := HK.out; omega), List.findSome?_nil] at HSN
      have HSN2 := Aside0.mk HSN
      clear HSN HSR
      go_wp2_with (fail)
      go_ret
      rw [HSN2.out]
      exact ⟨HBA.out, rfl⟩
end Go.Proofs.Ytagmadfllfcloaa.PC
end
section
set_option linter.unusedVariables false
set_option linter.unusedSimpArgs false
/- truth.Cycle's closure: the walk. -/
namespace Go.Proofs.Ytagmadfllfcloaa.PC
open Go.RowKit Go.Proofs.YtagmadfllfcloaaW.PrintWords Go.Proofs.YtagmadfllfcloaaW.PrintLast Go.Proofs.YtagmadfllfcloaaW.PrintMore
set_option linter.unusedVariables false
set_option linter.unusedSimpArgs false
attribute [local go_sem] run_store_func sl_neq
/-- truth's search from a way: only odd lengths come home. -/
def srchT (N : Nat) (ms : List (List Nat)) (good : Bool) : Nat → List Int → Option (List Int)
  | 0, way => if good = true ∧ firstN way ∈ ms.getD (lastN way) [] then some way else none
  | d + 1, way => (List.range N).findSome? fun j : Nat => if j ∈ ms.getD (lastN way) [] then (if (j : Int) ∈ way then none else srchT N ms good d (way ++ [(j : Int)])) else none
theorem setAll_getD : ∀ (m : List Nat) (s : List Bool) (j : Nat), j < s.length → (setAll m s).getD j false = (s.getD j false || decide (j ∈ m))
  | [], s, j, h => by simp [setAll]
  | x :: m, s, j, h => by
    have := setAll_getD m (s.set x true) j (by rw [List.length_set]; exact h)
    refine this.trans ?_
    by_cases hx : x = j
    · subst hx
      simp [List.getD_eq_getElem?_getD, h]
    · have e : (s.set x true).getD j false = s.getD j false := by simp only [List.getD_eq_getElem?_getD]; rw [List.getElem?_set_ne hx]
      rw [e]
      have e2 : decide (j ∈ x :: m) = decide (j ∈ m) := decide_eq_decide.2 ⟨fun h => (List.mem_cons.1 h).resolve_left (fun e => hx e.symm), List.mem_cons_of_mem _⟩
      rw [e2]
theorem rowOf_getD (N : Nat) (m : List Nat) (j : Nat) (h : j < N) : (rowOf N m).getD j false = decide (j ∈ m) := by
  unfold rowOf
  rw [setAll_getD _ _ _ (by simpa using h)]
  simp [List.getD_eq_getElem?_getD, h]
theorem rowOf_len (N : Nat) (m : List Nat) : (rowOf N m).length = N := by unfold rowOf; rw [setAll_len, List.length_replicate]
/-- What stands still while ways are searched. -/
structure InvC (N : Nat) (ms : List (List Nat)) (gO garc gl godd gon long : Nat) (W : World) : Prop where
  arc : W.cell? ⟨garc, 0, none⟩ = some (.slice (some ⟨gO, 0, none⟩) N N)
  l : W.cell? ⟨gl, 0, none⟩ = some (.int .i64 (long : Int))
  odd : W.cell? ⟨godd, 0, none⟩ = some (.bool true)
  on : W.cell? ⟨gon, 0, none⟩ = some (.func (.func 25) #[] #[.pointer (some ⟨garc, 0, none⟩), .pointer (some ⟨gl, 0, none⟩), .pointer (some ⟨godd, 0, none⟩), .pointer (some ⟨gon, 0, none⟩)])
  t : ArcsAt W gO N ms
theorem InvC.below {N : Nat} {ms : List (List Nat)} {gO garc gl godd gon long : Nat} {W W1 : World} (h : InvC N ms gO garc gl godd gon long W) (hb : Below W.heap.size W W1) : InvC N ms gO garc gl godd gon long W1 :=
  ⟨(hb.cell (World.block_lt_of_cell? W _ h.arc)).trans h.arc, (hb.cell (World.block_lt_of_cell? W _ h.l)).trans h.l, (hb.cell (World.block_lt_of_cell? W _ h.odd)).trans h.odd, (hb.cell (World.block_lt_of_cell? W _ h.on)).trans h.on, h.t.below hb⟩
theorem old1 {w : World} {a : Addr} {v : Value} (h : w.cell? a = some v) : ∀ A, (w.alloc A).cell? a = some v := fun A => (((Below.refl w.heap.size w).alloc (Nat.le_refl _) A).cell (World.block_lt_of_cell? w _ h)).trans h
theorem old2 {w : World} {a : Addr} {v : Value} (h : w.cell? a = some v) : ∀ A B, ((w.alloc A).alloc B).cell? a = some v := fun A B => old1 (old1 h A) B
theorem below2 (w : World) (A B : Obj) : Below w.heap.size w ((w.alloc A).alloc B) := ((Below.refl _ _).alloc (Nat.le_refl _) A).alloc (by simp) B
def WayN (N : Nat) (way : List Int) : Prop := 1 ≤ way.length ∧ way.length ≤ 12 ∧ ∀ x ∈ way, 0 ≤ x ∧ x < N
theorem par_flip (n : Nat) : (!(n % 2 == 1)) = ((n + 1) % 2 == 1) := by
  rcases Nat.mod_two_eq_zero_or_one n with h | h
  · have h2 : (n + 1) % 2 = 1 := by omega
    rw [h, h2]; rfl
  · have h2 : (n + 1) % 2 = 0 := by omega
    rw [h, h2]; rfl
/-- The closure's contract, with d steps left. -/
def CycOn (N : Nat) (ms : List (List Nat)) (gO garc gl godd gon long d : Nat) : Prop := ∀ (way : List Int) (hd : way.length + d = long) (hw : WayN N way) (e : Bool) (he : e = (way.length % 2 == 1)) (A : Option Addr) (c : Nat) (w : World) (hc : Kd.C (Kd.int .i64) w A way.length way) (hcap : way.length ≤ c) (hI : InvC N ms gO garc gl godd gon long w),
    Calls Try.prog 25 #[.slice A way.length c, .agg #[.bool e, .bool (!e)], .pointer (some ⟨garc, 0, none⟩), .pointer (some ⟨gl, 0, none⟩), .pointer (some ⟨godd, 0, none⟩), .pointer (some ⟨gon, 0, none⟩)] w (SrchPost (srchT N ms (long % 2 == 1) d way) w)
end Go.Proofs.Ytagmadfllfcloaa.PC
end
section
set_option linter.unusedVariables false
set_option linter.unusedSimpArgs false
/- truth.Cycle's closure: the walk, part 0. -/
namespace Go.Proofs.Ytagmadfllfcloaa.PC
open Go.RowKit Go.Proofs.YtagmadfllfcloaaW.PrintWords Go.Proofs.YtagmadfllfcloaaW.PrintLast Go.Proofs.YtagmadfllfcloaaW.PrintMore
set_option linter.unusedVariables false
set_option linter.unusedSimpArgs false
attribute [local go_sem] run_store_func sl_neq
set_option maxHeartbeats 16000000 in
set_option maxRecDepth 100000 in
theorem cyc_zero (N : Nat) (hN : N ≤ 10) (ms : List (List Nat)) (gO garc gl godd gon long : Nat) (hlong : long ≤ 12) (d : Nat) (ih : ∀ m, m < d → CycOn N ms gO garc gl godd gon long m) (hd0 : d = 0) :
    ∀ (way : List Int) (hd : way.length + d = long) (hw : WayN N way) (e : Bool) (he : e = (way.length % 2 == 1)) (A : Option Addr) (c : Nat) (w : World) (hc : Kd.C (Kd.int .i64) w A way.length way) (hcap : way.length ≤ c) (hI : InvC N ms gO garc gl godd gon long w),
    Calls Try.prog 25 #[.slice A way.length c, .agg #[.bool e, .bool (!e)], .pointer (some ⟨garc, 0, none⟩), .pointer (some ⟨gl, 0, none⟩), .pointer (some ⟨godd, 0, none⟩), .pointer (some ⟨gon, 0, none⟩)] w (SrchPost (srchT N ms (long % 2 == 1) d way) w) := by
  intro way hd hw e he A c w hc hcap hI
  have HIH := Lib.hid (fun (d' : Nat) (h : d' + 1 = d) (j : Int) (hj : WayN N (way ++ [j])) (P : Nat) (hP : (way ++ [j]).length = P) (A : Option Addr) (c : Nat) (wr : World) (hc : Kd.C (Kd.int .i64) wr A P (way ++ [j])) (hcap : P ≤ c) (hI : InvC N ms gO garc gl godd gon long wr) =>
    show Calls Try.prog 25 #[.slice A P c, .agg #[.bool (!e), .bool e], .pointer (some ⟨garc, 0, none⟩), .pointer (some ⟨gl, 0, none⟩), .pointer (some ⟨godd, 0, none⟩), .pointer (some ⟨gon, 0, none⟩)] wr (SrchPost (srchT N ms (long % 2 == 1) d' (way ++ [j])) wr) by
      subst hP
      have := ih d' (by omega) (way ++ [j]) (by rw [List.length_append, List.length_singleton]; omega) hj (!e) (by rw [he, List.length_append, List.length_singleton]; exact par_flip _) A c wr hc hcap hI
      rwa [Bool.not_not] at this)
  have HCO := Lib.hid (fun (x : Int) (wr : World) hr => contains_walk A way.length c way x wr hr (Nat.le_trans hw.2.1 (by decide)))
  obtain ⟨L, hL⟩ : ∃ L, way.length = L := ⟨_, rfl⟩
  obtain ⟨M, hM⟩ : ∃ M, L = M + 1 := ⟨L - 1, by have := hw.1; omega⟩
  obtain ⟨ad, hA, hx⟩ := at_scalar hc M (by omega) (by omega)
  obtain ⟨ad', hA', hf⟩ := at_scalar hc 0 (by omega) (by omega)
  obtain rfl : ad = ad' := by rw [hA] at hA'; exact Option.some.inj hA'
  subst hA
  have hxin := hw.2.2 way[M] (List.getElem_mem _)
  have hfin := hw.2.2 way[0] (List.getElem_mem _)
  have hln : lastN way = way[M].toNat := by
    have h1 : way.length - 1 = M := by omega
    unfold lastN
    rw [h1]
    simp [List.getD_eq_getElem?_getD, show M < way.length by omega]
  have hfn : firstN way = way[0].toNat := by unfold firstN; simp [List.getD_eq_getElem?_getD, show 0 < way.length by omega]
  obtain ⟨x, hxx⟩ : ∃ x, way[M] = x := ⟨_, rfl⟩
  obtain ⟨f, hff⟩ : ∃ f, way[0] = f := ⟨_, rfl⟩
  rw [hxx] at hx hxin hln
  rw [hff] at hf hfin hfn
  obtain ⟨X, rfl⟩ := Int.eq_ofNat_of_zero_le hxin.1
  obtain ⟨F, rfl⟩ := Int.eq_ofNat_of_zero_le hfin.1
  rw [Int.toNat_natCast] at hln hfn
  have hX12 : X < N := by omega
  have hF12 : F < N := by omega
  obtain ⟨gr, hrc, hrow⟩ := hI.t X hX12
  obtain ⟨T, hT⟩ : ∃ T, ms.getD X [] = T := ⟨_, rfl⟩
  rw [hT] at hrow
  have harc := hI.arc
  have hll := hI.l
  have k1 : (L ≤ c) = True := eq_true (by omega)
  have k2 : ((L : Int) ≤ (c : Int)) = True := eq_true (by omega)
  have k3 : decide ((L : Int) ≤ (c : Int)) = true := decide_eq_true (by omega)
  have k4 : (0 : Int) ≤ (L : Int) := by omega
  have e1 : wrap64 ((L : Int) - 1) = (M : Int) := by unfold wrap64; omega
  have e1' : IntKind.i64.wrap ((L : Int) - 1) = (M : Int) := (i64_w _).trans e1
  have b1 : decide ((M : Int) < (L : Int)) = true := decide_eq_true (by omega)
  have b1n : (M < L) = True := eq_true (by omega)
  have b0n : (0 < L) = True := eq_true (by omega)
  have HS := Aside0.mk (And.intro hd (And.intro hL hM))
  have HL12 := Aside0.mk (show L ≤ 12 by have := hw.2.1; omega)
  have HW := Aside0.mk hw
  have HI0 := Aside0.mk hI
  have HC := Aside0.mk hc
  have HLF := Aside0.mk (And.intro hln hfn)
  have HRW := Aside0.mk hrow
  have b2n : (X < N) = True := eq_true hX12
  have b2 : decide ((X : Int) < (N : Int)) = true := decide_eq_true (by omega)
  have b3 : ((X : Int) < (N : Int)) = True := eq_true (by omega)
  have HX := Aside0.mk (And.intro hX12 (And.intro hF12 hN))
  have HE := Aside0.mk he
  have HT := Aside0.mk hT
  rw [hL] at HC HCO ⊢
  rw [hL] at he
  clear hcap ih hd hw hc hI hA' hxin hfin hln hfn hxx hff hM hX12 hF12 hL hN hrow hT
  have HLW := Aside0.mk HS.out.2.1
  have HL100 := Aside0.mk (Nat.le_trans HL12.out (by decide : 12 ≤ 100))
  have HEL := Aside0.mk he
  clear he HE
  have hf0 : w.cell? ad = some (.int .i64 (F : Int)) := by rw [← hf]; rfl
  have hb1 : Below w.heap.size w (w.alloc (.cells #[.bool e, .bool (!e)] 65)) := (Below.refl _ _).alloc (Nat.le_refl _) _
  replace hx := (hb1.cell (World.block_lt_of_cell? w _ hx)).trans hx
  replace hrc := (hb1.cell (World.block_lt_of_cell? w _ hrc)).trans hrc
  replace harc := (hb1.cell (World.block_lt_of_cell? w _ harc)).trans harc
  have HF0 := Aside0.mk ((hb1.cell (World.block_lt_of_cell? w _ hf0)).trans hf0)
  have HRW1 := Aside0.mk (HRW.out.below hb1)
  have HI1 := Aside0.mk (HI0.out.below hb1)
  have HC1 := Aside0.mk (Kd.C_below HC.out hb1)
  have HB1 := Aside0.mk hb1
  clear hf hf0 hll HRW HI0 HC hb1
  go_enter Try.func25, Try.ntmps25
  go_wp2_with (fail)
  generalize hW : (World.alloc _ _ : World) = w1
  rw [hW] at HF0 HRW1 HI1 HC1 HB1
  have hs0 : w1.cell? ⟨w.heap.size, 0, none⟩ = some (.bool e) := by rw [← hW]; refine (World.cell?_alloc_at _ _ _ _ rfl).trans ?_; rfl
  have hs1 : w1.cell? ⟨w.heap.size, 1, none⟩ = some (.bool (!e)) := by rw [← hW]; refine (World.cell?_alloc_at _ _ _ _ rfl).trans ?_; rfl
  obtain ⟨g7, hg7⟩ : ∃ g7, w.heap.size = g7 := ⟨_, rfl⟩
  rw [hg7] at hs0 hs1 ⊢
  have HS01 := Aside0.mk (And.intro hs0 hs1)
  clear hx hrc harc hW hg7 hs0 hs1
  subst hd0
  obtain rfl : L = long := by have := HS.out; omega
  have HSR := Aside0.mk (show srchT N ms (L % 2 == 1) 0 way = if (L % 2 == 1) = true ∧ F ∈ T then some way else none by unfold srchT; rw [HLF.out.1, HLF.out.2, HT.out])
  go_loopw [25] (fun v25 wr => ∃ j : Nat, j ≤ N ∧ v25 = .int .i64 (j : Int) ∧ Aside0 (Below w1.heap.size w1 wr) ∧ Aside0 (e = true → F < j → F ∉ T)) (fun v25 _ => N - (intOf v25).toNat)
  case atStart => exact ⟨0, by omega, rfl, ⟨Below.refl _ _⟩, ⟨fun _ h => absurd h (Nat.not_lt_zero _)⟩⟩
  case round =>
    obtain ⟨j, hj, rfl, HBW, HF⟩ := hrel
    by_cases hjN : j < N
    · have d1 : decide ((j : Int) < (N : Int)) = true := decide_eq_true (by omega)
      have d1n : (j < N) = True := eq_true hjN
      have hrw := HRW1.out.below HBW.out
      have hc0 := hrw.c0 (j := j) (by rw [rowOf_len]; exact hjN)
      have hc1 := hrw.c1 (j := j) (by rw [rowOf_len]; exact hjN)
      rw [rowOf_getD N T j hjN] at hc1
      have HIW := Aside0.mk (HI1.out.below HBW.out)
      have f1 := old1 ((HBW.out.cell (World.block_lt_of_cell? w1 _ HS01.out.1)).trans HS01.out.1)
      have f2 := old1 ((HBW.out.cell (World.block_lt_of_cell? w1 _ HS01.out.2)).trans HS01.out.2)
      have f3 := old2 HIW.out.l
      have f4 := old2 HIW.out.odd
      have f5 := old2 ((HBW.out.cell (World.block_lt_of_cell? w1 _ HF0.out)).trans HF0.out)
      have HJ1 := Aside0.mk (show j + 1 ≤ N from hjN)
      have HMS := Aside0.mk (mstepA hjN (show N ≤ 1000 by have := HX.out; omega))
      have HVI := Aside0.mk (vI (show j ≤ 1000000 by have := HX.out; omega))
      obtain ⟨b, hb⟩ : ∃ b, decide (j ∈ T) = b := ⟨_, rfl⟩
      rw [hb] at hc1
      have HBB := Aside0.mk hb
      clear hb hrw
      cases b with
      | false =>
        cases e
        all_goals
          go_wp2_with (fail)
          refine ⟨⟨j + 1, HJ1.out, HVI.out, ⟨HBW.out.trans ((below2 _ _ _).mono HBW.out.size)⟩, ⟨?_⟩⟩, HMS.out⟩
          first
            | exact fun he _ => absurd he (by decide)
            | (intro _ h hF; rcases Nat.lt_or_ge F j with h1 | h1; · exact HF.out rfl h1 hF
               · have e0 : F = j := by omega
                 rw [e0] at hF
                 exact of_decide_eq_false HBB.out hF)
      | true =>
        cases e
        all_goals
          by_cases hjF : j = F
          · subst hjF
            go_wp2_with (fail)
            first
              | (refine ⟨⟨j + 1, HJ1.out, HVI.out, ⟨HBW.out.trans ((below2 _ _ _).mono HBW.out.size)⟩, ⟨?_⟩⟩, HMS.out⟩; exact fun he _ => absurd he (by decide))
              | (go_ret
                 have hsr := HSR.out
                 rw [if_pos ⟨HEL.out.symm, of_decide_eq_true HBB.out⟩] at hsr
                 rw [hsr]
                 have hbb := HB1.out.trans ((HBW.out.trans ((below2 wr (.cells #[.bool false, .bool true] 65) (.cells #[.bool false, .bool true] 65)).mono HBW.out.size)).mono HB1.out.size)
                 have hbw := HBW.out.trans ((below2 wr (.cells #[.bool false, .bool true] 65) (.cells #[.bool false, .bool true] 65)).mono HBW.out.size)
                 refine ⟨hbb, HW.out.1, HW.out.2.1, ad, c, by rw [HLW.out]; rfl, ?_⟩
                 rw [HLW.out]
                 exact Kd.C_below HC1.out hbw)
          · have c1 : ((j : Int) == (F : Int)) = false := beq_eq_false_iff_ne.2 (by omega)
            have c1n : (j = F) = False := eq_false hjF
            go_wp2_with (fail)
            refine ⟨⟨j + 1, HJ1.out, HVI.out, ⟨HBW.out.trans ((below2 _ _ _).mono HBW.out.size)⟩, ⟨?_⟩⟩, HMS.out⟩
            first
              | exact fun he _ => absurd he (by decide)
              | (intro _ h hF; exact HF.out rfl (by omega) hF)
    · have d1 : decide ((j : Int) < (N : Int)) = false := decide_eq_false (by omega)
      have d1n : (j < N) = False := eq_false hjN
      have hsr := HSR.out
      rw [if_neg (fun h => HF.out (HEL.out.trans h.1) (by have := HX.out; omega) h.2)] at hsr
      have HSR2 := Aside0.mk hsr
      clear hsr HSR
      go_wp2_with (fail)
      go_ret
      rw [HSR2.out]
      exact ⟨HB1.out.trans (HBW.out.mono HB1.out.size), rfl⟩
end Go.Proofs.Ytagmadfllfcloaa.PC
end
section
set_option linter.unusedVariables false
set_option linter.unusedSimpArgs false
/- truth.Cycle's closure: the walk, part 1. -/
namespace Go.Proofs.Ytagmadfllfcloaa.PC
open Go.RowKit Go.Proofs.YtagmadfllfcloaaW.PrintWords Go.Proofs.YtagmadfllfcloaaW.PrintLast Go.Proofs.YtagmadfllfcloaaW.PrintMore
set_option linter.unusedVariables false
set_option linter.unusedSimpArgs false
attribute [local go_sem] run_store_func sl_neq
set_option maxHeartbeats 16000000 in
set_option maxRecDepth 100000 in
theorem cyc_false (N : Nat) (hN : N ≤ 10) (ms : List (List Nat)) (gO garc gl godd gon long : Nat) (hlong : long ≤ 12) (d : Nat) (ih : ∀ m, m < d → CycOn N ms gO garc gl godd gon long m) (hd0 : ¬ d = 0) :
    ∀ (way : List Int) (hd : way.length + d = long) (hw : WayN N way) (e : Bool) (he : e = (way.length % 2 == 1)) (hsel : e = false) (A : Option Addr) (c : Nat) (w : World) (hc : Kd.C (Kd.int .i64) w A way.length way) (hcap : way.length ≤ c) (hI : InvC N ms gO garc gl godd gon long w),
    Calls Try.prog 25 #[.slice A way.length c, .agg #[.bool e, .bool (!e)], .pointer (some ⟨garc, 0, none⟩), .pointer (some ⟨gl, 0, none⟩), .pointer (some ⟨godd, 0, none⟩), .pointer (some ⟨gon, 0, none⟩)] w (SrchPost (srchT N ms (long % 2 == 1) d way) w) := by
  intro way hd hw e he hsel A c w hc hcap hI
  have HSEL := Aside0.mk hsel
  clear hsel
  have HIH := Lib.hid (fun (d' : Nat) (h : d' + 1 = d) (j : Int) (hj : WayN N (way ++ [j])) (P : Nat) (hP : (way ++ [j]).length = P) (A : Option Addr) (c : Nat) (wr : World) (hc : Kd.C (Kd.int .i64) wr A P (way ++ [j])) (hcap : P ≤ c) (hI : InvC N ms gO garc gl godd gon long wr) =>
    show Calls Try.prog 25 #[.slice A P c, .agg #[.bool (!e), .bool e], .pointer (some ⟨garc, 0, none⟩), .pointer (some ⟨gl, 0, none⟩), .pointer (some ⟨godd, 0, none⟩), .pointer (some ⟨gon, 0, none⟩)] wr (SrchPost (srchT N ms (long % 2 == 1) d' (way ++ [j])) wr) by
      subst hP
      have := ih d' (by omega) (way ++ [j]) (by rw [List.length_append, List.length_singleton]; omega) hj (!e) (by rw [he, List.length_append, List.length_singleton]; exact par_flip _) A c wr hc hcap hI
      rwa [Bool.not_not] at this)
  have HCO := Lib.hid (fun (x : Int) (wr : World) hr => contains_walk A way.length c way x wr hr (Nat.le_trans hw.2.1 (by decide)))
  obtain ⟨L, hL⟩ : ∃ L, way.length = L := ⟨_, rfl⟩
  obtain ⟨M, hM⟩ : ∃ M, L = M + 1 := ⟨L - 1, by have := hw.1; omega⟩
  obtain ⟨ad, hA, hx⟩ := at_scalar hc M (by omega) (by omega)
  obtain ⟨ad', hA', hf⟩ := at_scalar hc 0 (by omega) (by omega)
  obtain rfl : ad = ad' := by rw [hA] at hA'; exact Option.some.inj hA'
  subst hA
  have hxin := hw.2.2 way[M] (List.getElem_mem _)
  have hfin := hw.2.2 way[0] (List.getElem_mem _)
  have hln : lastN way = way[M].toNat := by
    have h1 : way.length - 1 = M := by omega
    unfold lastN
    rw [h1]
    simp [List.getD_eq_getElem?_getD, show M < way.length by omega]
  have hfn : firstN way = way[0].toNat := by unfold firstN; simp [List.getD_eq_getElem?_getD, show 0 < way.length by omega]
  obtain ⟨x, hxx⟩ : ∃ x, way[M] = x := ⟨_, rfl⟩
  obtain ⟨f, hff⟩ : ∃ f, way[0] = f := ⟨_, rfl⟩
  rw [hxx] at hx hxin hln
  rw [hff] at hf hfin hfn
  obtain ⟨X, rfl⟩ := Int.eq_ofNat_of_zero_le hxin.1
  obtain ⟨F, rfl⟩ := Int.eq_ofNat_of_zero_le hfin.1
  rw [Int.toNat_natCast] at hln hfn
  have hX12 : X < N := by omega
  have hF12 : F < N := by omega
  obtain ⟨gr, hrc, hrow⟩ := hI.t X hX12
  obtain ⟨T, hT⟩ : ∃ T, ms.getD X [] = T := ⟨_, rfl⟩
  rw [hT] at hrow
  have harc := hI.arc
  have hll := hI.l
  have k1 : (L ≤ c) = True := eq_true (by omega)
  have k2 : ((L : Int) ≤ (c : Int)) = True := eq_true (by omega)
  have k3 : decide ((L : Int) ≤ (c : Int)) = true := decide_eq_true (by omega)
  have k4 : (0 : Int) ≤ (L : Int) := by omega
  have e1 : wrap64 ((L : Int) - 1) = (M : Int) := by unfold wrap64; omega
  have e1' : IntKind.i64.wrap ((L : Int) - 1) = (M : Int) := (i64_w _).trans e1
  have b1 : decide ((M : Int) < (L : Int)) = true := decide_eq_true (by omega)
  have b1n : (M < L) = True := eq_true (by omega)
  have b0n : (0 < L) = True := eq_true (by omega)
  have HS := Aside0.mk (And.intro hd (And.intro hL hM))
  have HL12 := Aside0.mk (show L ≤ 12 by have := hw.2.1; omega)
  have HW := Aside0.mk hw
  have HI0 := Aside0.mk hI
  have HC := Aside0.mk hc
  have HLF := Aside0.mk (And.intro hln hfn)
  have HRW := Aside0.mk hrow
  have b2n : (X < N) = True := eq_true hX12
  have b2 : decide ((X : Int) < (N : Int)) = true := decide_eq_true (by omega)
  have b3 : ((X : Int) < (N : Int)) = True := eq_true (by omega)
  have HX := Aside0.mk (And.intro hX12 (And.intro hF12 hN))
  have HE := Aside0.mk he
  have HT := Aside0.mk hT
  rw [hL] at HC HCO ⊢
  rw [hL] at he
  clear hcap ih hd hw hc hI hA' hxin hfin hln hfn hxx hff hM hX12 hF12 hL hN hrow hT
  have HLW := Aside0.mk HS.out.2.1
  have HL100 := Aside0.mk (Nat.le_trans HL12.out (by decide : 12 ≤ 100))
  have HEL := Aside0.mk he
  clear he HE
  have hf0 : w.cell? ad = some (.int .i64 (F : Int)) := by rw [← hf]; rfl
  have hb1 : Below w.heap.size w (w.alloc (.cells #[.bool e, .bool (!e)] 65)) := (Below.refl _ _).alloc (Nat.le_refl _) _
  replace hx := (hb1.cell (World.block_lt_of_cell? w _ hx)).trans hx
  replace hrc := (hb1.cell (World.block_lt_of_cell? w _ hrc)).trans hrc
  replace harc := (hb1.cell (World.block_lt_of_cell? w _ harc)).trans harc
  have HF0 := Aside0.mk ((hb1.cell (World.block_lt_of_cell? w _ hf0)).trans hf0)
  have HRW1 := Aside0.mk (HRW.out.below hb1)
  have HI1 := Aside0.mk (HI0.out.below hb1)
  have HC1 := Aside0.mk (Kd.C_below HC.out hb1)
  have HB1 := Aside0.mk hb1
  clear hf hf0 hll HRW HI0 HC hb1
  go_enter Try.func25, Try.ntmps25
  go_wp2_with (fail)
  generalize hW : (World.alloc _ _ : World) = w1
  rw [hW] at HF0 HRW1 HI1 HC1 HB1
  have hs0 : w1.cell? ⟨w.heap.size, 0, none⟩ = some (.bool e) := by rw [← hW]; refine (World.cell?_alloc_at _ _ _ _ rfl).trans ?_; rfl
  have hs1 : w1.cell? ⟨w.heap.size, 1, none⟩ = some (.bool (!e)) := by rw [← hW]; refine (World.cell?_alloc_at _ _ _ _ rfl).trans ?_; rfl
  obtain ⟨g7, hg7⟩ : ∃ g7, w.heap.size = g7 := ⟨_, rfl⟩
  rw [hg7] at hs0 hs1 ⊢
  have HS01 := Aside0.mk (And.intro hs0 hs1)
  clear hx hrc harc hW hg7 hs0 hs1
  obtain ⟨d', rfl⟩ : ∃ d', d = d' + 1 := ⟨d - 1, by omega⟩
  have c1 : ((L : Int) == (long : Int)) = false := beq_eq_false_iff_ne.2 (by have := HS.out; omega)
  have c1n : (L = long) = False := eq_false (by have := HS.out; omega)
  clear hd0
  obtain ⟨ne, hne⟩ : ∃ ne, (!e) = ne := ⟨_, rfl⟩
  rw [hne] at HS01 HIH ⊢
  have HNE := Aside0.mk hne
  clear hne
  have HSR := Aside0.mk (show srchT N ms (long % 2 == 1) (d' + 1) way = ((List.range N).drop 0).findSome? (fun j : Nat => if j ∈ T then (if (j : Int) ∈ way then none else srchT N ms (long % 2 == 1) d' (way ++ [(j : Int)])) else none) by rw [srchT, HLF.out.1, HT.out, List.drop_zero])
  go_loopw [25] (fun v25 wr => ∃ j : Nat, j ≤ N ∧ v25 = .int .i64 (j : Int) ∧ Aside0 (Below w1.heap.size w1 wr) ∧ Aside0 (srchT N ms (long % 2 == 1) (d' + 1) way = ((List.range N).drop j).findSome? (fun j : Nat => if j ∈ T then (if (j : Int) ∈ way then none else srchT N ms (long % 2 == 1) d' (way ++ [(j : Int)])) else none))) (fun v25 _ => N - (intOf v25).toNat)
  case atStart => exact ⟨0, by omega, rfl, ⟨Below.refl _ _⟩, HSR⟩
  case round =>
    clear HSR
    obtain ⟨j, hj, rfl, HBW, HSR⟩ := hrel
    by_cases hjN : j < N
    · have d1 : decide ((j : Int) < (N : Int)) = true := decide_eq_true (by omega)
      have d1n : (j < N) = True := eq_true hjN
      have hrw := HRW1.out.below HBW.out
      have hc0 := hrw.c0 (j := j) (by rw [rowOf_len]; exact hjN)
      have hc1 := hrw.c1 (j := j) (by rw [rowOf_len]; exact hjN)
      rw [rowOf_getD N T j hjN] at hc1
      have HIW := Aside0.mk (HI1.out.below HBW.out)
      have f1 := old1 ((HBW.out.cell (World.block_lt_of_cell? w1 _ HS01.out.1)).trans HS01.out.1)
      have f2 := old1 ((HBW.out.cell (World.block_lt_of_cell? w1 _ HS01.out.2)).trans HS01.out.2)
      have f3 := old2 HIW.out.l
      have HJ0 := Aside0.mk hjN
      have HJ1 := Aside0.mk (show j + 1 ≤ N from hjN)
      have HMS := Aside0.mk (mstepA hjN (show N ≤ 1000 by have := HX.out; omega))
      have HVI := Aside0.mk (vI (show j ≤ 1000000 by have := HX.out; omega))
      have hjR : j < (List.range N).length := by rw [List.length_range]; exact hjN
      have hs := HSR.out
      rw [List.drop_eq_getElem_cons hjR, List.findSome?_cons, List.getElem_range] at hs
      obtain ⟨b, hb⟩ : ∃ b, decide (j ∈ T) = b := ⟨_, rfl⟩
      rw [hb] at hc1
      cases b with
      | false =>
        rw [if_neg (of_decide_eq_false hb)] at hs
        have HS1 := Aside0.mk hs
        clear hs hb hrw hjR HSR
        cases e
        all_goals
          first
            | (obtain rfl : true = ne := HNE.out)
            | (obtain rfl : false = ne := HNE.out)
          go_wp2_with (fail)
          exact ⟨⟨j + 1, HJ1.out, HVI.out, ⟨HBW.out.trans ((below2 _ _ _).mono HBW.out.size)⟩, HS1⟩, HMS.out⟩
      | true =>
        rw [if_pos (of_decide_eq_true hb)] at hs
        have HS1 := Aside0.mk hs
        clear hs hb hrw hjR HSR
        cases e with
        | false =>
            obtain rfl : true = ne := HNE.out
            go_wp2_with (fail)
            generalize hW9 : (World.alloc _ _ : World) = w9
            have hb9 : Below wr.heap.size wr w9 := by rw [← hW9]; exact below2 _ _ _
            obtain ⟨g12, hg12⟩ : ∃ g12, wr.heap.size + 1 = g12 := ⟨_, rfl⟩
            have hh9 := alloc2_new wr (.cells #[.bool false, .bool true] 65) (.cells #[.bool true, .bool false] 65)
            rw [hW9, hg12] at hh9
            have hs9 : w9.cell? ⟨g12, 0, none⟩ = some (.bool true) := by
              unfold World.cell?
              rw [hh9]
              rfl
            have ht9 : w9.cell? ⟨g12, 1, none⟩ = some (.bool false) := by
              unfold World.cell?
              rw [hh9]
              rfl
            rw [hg12]
            have hc9 := Kd.C_below HC1.out (HBW.out.trans (hb9.mono HBW.out.size))
            have HC9 := Aside0.mk hc9
            have HI9 := Aside0.mk (HIW.out.below hb9)
            have HBW9 := Aside0.mk (HBW.out.trans (hb9.mono HBW.out.size))
            have HX9 := Lib.hid (HCO.out (j : Int) w9 hc9)
            clear hW9 hb9 hg12 hh9 hc9 f1 f2 f3 hc0 hc1
            by_cases hjw : (j : Int) ∈ way
            · have q1 : decide ((j : Int) ∈ way) = true := decide_eq_true hjw
              rw [q1] at HX9
              have hs := HS1.out
              rw [if_pos hjw] at hs
              have HS2 := Aside0.mk hs
              clear hs HS1 q1 hjw
              refine HX9.out.mono ?_; rintro _ wb ⟨rfl, rfl⟩
              go_wp2_with (fail)
              go_roundw
              case rel => exact ⟨j + 1, HJ1.out, HVI.out, HBW9, HS2⟩
              case measure => exact HMS.out
            · have q1 : decide ((j : Int) ∈ way) = false := decide_eq_false hjw
              rw [q1] at HX9
              have hs := HS1.out
              rw [if_neg hjw] at hs
              have HS2 := Aside0.mk hs
              clear hs HS1 q1 hjw
              refine HX9.out.mono ?_; rintro _ wb ⟨rfl, rfl⟩
              have hon := HI9.out.on
              have r1 := old1 hon
              have r2 := old1 hs9
              have r3 := old1 ht9
              have HST := Aside0.mk (And.intro hs9 ht9)
              go_wp2_with (fail)
              have HWJ := Aside0.mk (show WayN N (way ++ [(j : Int)]) from ⟨by simp, by have := HS.out; have := hlong; rw [List.length_append, List.length_singleton]; omega, fun y hy => by rcases List.mem_append.1 hy with h | h; exact HW.out.2.2 y h; rw [List.mem_singleton] at h; rw [h]; have := HJ0.out; omega⟩)
              have HLJ := Aside0.mk (show (way ++ [(j : Int)]).length = L + 1 by rw [List.length_append, List.length_singleton, HLW.out])
              go_region_law (first
                | (refine step_cut_own (W := wb.drew) rfl (.tmp 101) (.tmp 103) 23 rfl Try.underlying23 info3c (some ad) way L HLW.out HL100.out (j : Int) (by simp [Act.eval, Act.put]) (by simp [Act.eval, Act.put]) ?hC ?_; (case hC => exact Kd.C_drew HC9.out); intro v51 w51 ho51 hb51; obtain ⟨A51, c51, e51, hl51, hc51⟩ := Kd.R_reads ho51; rw [HLJ.out] at e51 hl51 hc51; subst e51; have HB51 := Aside0.mk hb51; have HC51 := Aside0.mk (And.intro hl51 hc51); have hon51 := ((HI9.out.below ((Below.refl _ _).drew)).below HB51.out).on; have hsa51 : w51.cell? ⟨g12, 0, none⟩ = some (.bool true) := ((((Below.refl _ _).drew).trans HB51.out).cell (World.block_lt_of_cell? wb _ HST.out.1)).trans HST.out.1; have hsb51 : w51.cell? ⟨g12, 1, none⟩ = some (.bool false) := ((((Below.refl _ _).drew).trans HB51.out).cell (World.block_lt_of_cell? wb _ HST.out.2)).trans HST.out.2; clear hb51 hl51 hc51 ho51)
                | (go_simp; refine (HIH.out d' rfl (j : Int) HWJ.out (L + 1) HLJ.out A51 c51 w51 HC51.out.2 HC51.out.1 ((HI9.out.below ((Below.refl _ _).drew)).below HB51.out)).mono ?_; intro e w52 hp52; obtain ⟨A52, n52, c52, rfl, HB52, HP52⟩ := srch_shape hp52; clear hp52))
              all_goals
                have hbw := HBW9.out.trans ((((Below.refl wb.heap.size wb).drew.trans (HB51.out.mono (Nat.le_refl _))).trans (HB52.out.mono HB51.out.size)).mono HBW9.out.size)
                have HBF := Aside0.mk hbw
                obtain ⟨r, hr⟩ : ∃ r, srchT N ms (long % 2 == 1) d' (way ++ [(j : Int)]) = r := ⟨_, rfl⟩
                have hs3 := HS2.out
                have hp3 := HP52.out
                rw [hr] at hs3 hp3
                clear HS2 HP52 hbw hr r1 r2 r3 hon51 hsa51 hsb51 hon hs9 ht9
                cases r with
                | none =>
                  have HS4 := Aside0.mk hs3
                  have e0 : A52.isNone = true := by rw [hp3.1]; rfl
                  clear hs3 hp3
                  go_wp2_with (fail)
                  go_roundw
                  case rel => exact ⟨j + 1, HJ1.out, HVI.out, HBF, HS4⟩
                  case measure => exact HMS.out
                | some l =>
                  have HS4 := Aside0.mk hs3
                  have e0 : A52.isNone = false := by obtain ⟨_, _, _, ad5, e, _⟩ := hp3; rw [e]; rfl
                  have HC5 := Aside0.mk hp3
                  clear hs3 hp3
                  go_wp2_with (fail)
                  go_ret
                  obtain ⟨hl1, hl2, rfl, ad5, rfl, hc5⟩ := HC5.out
                  rw [HS4.out]
                  exact ⟨HB1.out.trans (HBF.out.mono HB1.out.size), hl1, hl2, ad5, c52, rfl, hc5⟩
        | true => exact absurd HSEL.out (by decide)
    · have d1 : decide ((j : Int) < (N : Int)) = false := decide_eq_false (by omega)
      have d1n : (j < N) = False := eq_false hjN
      have hsr := HSR.out
      rw [List.drop_eq_nil_of_le (by rw [List.length_range]; omega), List.findSome?_nil] at hsr
      have HSR2 := Aside0.mk hsr
      clear hsr HSR
      go_wp2_with (fail)
      go_ret
      rw [HSR2.out]
      exact ⟨HB1.out.trans (HBW.out.mono HB1.out.size), rfl⟩
end Go.Proofs.Ytagmadfllfcloaa.PC
end
section
set_option linter.unusedVariables false
set_option linter.unusedSimpArgs false
/- truth.Cycle's closure: the walk, part 2. -/
namespace Go.Proofs.Ytagmadfllfcloaa.PC
open Go.RowKit Go.Proofs.YtagmadfllfcloaaW.PrintWords Go.Proofs.YtagmadfllfcloaaW.PrintLast Go.Proofs.YtagmadfllfcloaaW.PrintMore
set_option linter.unusedVariables false
set_option linter.unusedSimpArgs false
attribute [local go_sem] run_store_func sl_neq
set_option maxHeartbeats 16000000 in
set_option maxRecDepth 100000 in
theorem cyc_true (N : Nat) (hN : N ≤ 10) (ms : List (List Nat)) (gO garc gl godd gon long : Nat) (hlong : long ≤ 12) (d : Nat) (ih : ∀ m, m < d → CycOn N ms gO garc gl godd gon long m) (hd0 : ¬ d = 0) :
    ∀ (way : List Int) (hd : way.length + d = long) (hw : WayN N way) (e : Bool) (he : e = (way.length % 2 == 1)) (hsel : e = true) (A : Option Addr) (c : Nat) (w : World) (hc : Kd.C (Kd.int .i64) w A way.length way) (hcap : way.length ≤ c) (hI : InvC N ms gO garc gl godd gon long w),
    Calls Try.prog 25 #[.slice A way.length c, .agg #[.bool e, .bool (!e)], .pointer (some ⟨garc, 0, none⟩), .pointer (some ⟨gl, 0, none⟩), .pointer (some ⟨godd, 0, none⟩), .pointer (some ⟨gon, 0, none⟩)] w (SrchPost (srchT N ms (long % 2 == 1) d way) w) := by
  intro way hd hw e he hsel A c w hc hcap hI
  have HSEL := Aside0.mk hsel
  clear hsel
  have HIH := Lib.hid (fun (d' : Nat) (h : d' + 1 = d) (j : Int) (hj : WayN N (way ++ [j])) (P : Nat) (hP : (way ++ [j]).length = P) (A : Option Addr) (c : Nat) (wr : World) (hc : Kd.C (Kd.int .i64) wr A P (way ++ [j])) (hcap : P ≤ c) (hI : InvC N ms gO garc gl godd gon long wr) =>
    show Calls Try.prog 25 #[.slice A P c, .agg #[.bool (!e), .bool e], .pointer (some ⟨garc, 0, none⟩), .pointer (some ⟨gl, 0, none⟩), .pointer (some ⟨godd, 0, none⟩), .pointer (some ⟨gon, 0, none⟩)] wr (SrchPost (srchT N ms (long % 2 == 1) d' (way ++ [j])) wr) by
      subst hP
      have := ih d' (by omega) (way ++ [j]) (by rw [List.length_append, List.length_singleton]; omega) hj (!e) (by rw [he, List.length_append, List.length_singleton]; exact par_flip _) A c wr hc hcap hI
      rwa [Bool.not_not] at this)
  have HCO := Lib.hid (fun (x : Int) (wr : World) hr => contains_walk A way.length c way x wr hr (Nat.le_trans hw.2.1 (by decide)))
  obtain ⟨L, hL⟩ : ∃ L, way.length = L := ⟨_, rfl⟩
  obtain ⟨M, hM⟩ : ∃ M, L = M + 1 := ⟨L - 1, by have := hw.1; omega⟩
  obtain ⟨ad, hA, hx⟩ := at_scalar hc M (by omega) (by omega)
  obtain ⟨ad', hA', hf⟩ := at_scalar hc 0 (by omega) (by omega)
  obtain rfl : ad = ad' := by rw [hA] at hA'; exact Option.some.inj hA'
  subst hA
  have hxin := hw.2.2 way[M] (List.getElem_mem _)
  have hfin := hw.2.2 way[0] (List.getElem_mem _)
  have hln : lastN way = way[M].toNat := by
    have h1 : way.length - 1 = M := by omega
    unfold lastN
    rw [h1]
    simp [List.getD_eq_getElem?_getD, show M < way.length by omega]
  have hfn : firstN way = way[0].toNat := by unfold firstN; simp [List.getD_eq_getElem?_getD, show 0 < way.length by omega]
  obtain ⟨x, hxx⟩ : ∃ x, way[M] = x := ⟨_, rfl⟩
  obtain ⟨f, hff⟩ : ∃ f, way[0] = f := ⟨_, rfl⟩
  rw [hxx] at hx hxin hln
  rw [hff] at hf hfin hfn
  obtain ⟨X, rfl⟩ := Int.eq_ofNat_of_zero_le hxin.1
  obtain ⟨F, rfl⟩ := Int.eq_ofNat_of_zero_le hfin.1
  rw [Int.toNat_natCast] at hln hfn
  have hX12 : X < N := by omega
  have hF12 : F < N := by omega
  obtain ⟨gr, hrc, hrow⟩ := hI.t X hX12
  obtain ⟨T, hT⟩ : ∃ T, ms.getD X [] = T := ⟨_, rfl⟩
  rw [hT] at hrow
  have harc := hI.arc
  have hll := hI.l
  have k1 : (L ≤ c) = True := eq_true (by omega)
  have k2 : ((L : Int) ≤ (c : Int)) = True := eq_true (by omega)
  have k3 : decide ((L : Int) ≤ (c : Int)) = true := decide_eq_true (by omega)
  have k4 : (0 : Int) ≤ (L : Int) := by omega
  have e1 : wrap64 ((L : Int) - 1) = (M : Int) := by unfold wrap64; omega
  have e1' : IntKind.i64.wrap ((L : Int) - 1) = (M : Int) := (i64_w _).trans e1
  have b1 : decide ((M : Int) < (L : Int)) = true := decide_eq_true (by omega)
  have b1n : (M < L) = True := eq_true (by omega)
  have b0n : (0 < L) = True := eq_true (by omega)
  have HS := Aside0.mk (And.intro hd (And.intro hL hM))
  have HL12 := Aside0.mk (show L ≤ 12 by have := hw.2.1; omega)
  have HW := Aside0.mk hw
  have HI0 := Aside0.mk hI
  have HC := Aside0.mk hc
  have HLF := Aside0.mk (And.intro hln hfn)
  have HRW := Aside0.mk hrow
  have b2n : (X < N) = True := eq_true hX12
  have b2 : decide ((X : Int) < (N : Int)) = true := decide_eq_true (by omega)
  have b3 : ((X : Int) < (N : Int)) = True := eq_true (by omega)
  have HX := Aside0.mk (And.intro hX12 (And.intro hF12 hN))
  have HE := Aside0.mk he
  have HT := Aside0.mk hT
  rw [hL] at HC HCO ⊢
  rw [hL] at he
  clear hcap ih hd hw hc hI hA' hxin hfin hln hfn hxx hff hM hX12 hF12 hL hN hrow hT
  have HLW := Aside0.mk HS.out.2.1
  have HL100 := Aside0.mk (Nat.le_trans HL12.out (by decide : 12 ≤ 100))
  have HEL := Aside0.mk he
  clear he HE
  have hf0 : w.cell? ad = some (.int .i64 (F : Int)) := by rw [← hf]; rfl
  have hb1 : Below w.heap.size w (w.alloc (.cells #[.bool e, .bool (!e)] 65)) := (Below.refl _ _).alloc (Nat.le_refl _) _
  replace hx := (hb1.cell (World.block_lt_of_cell? w _ hx)).trans hx
  replace hrc := (hb1.cell (World.block_lt_of_cell? w _ hrc)).trans hrc
  replace harc := (hb1.cell (World.block_lt_of_cell? w _ harc)).trans harc
  have HF0 := Aside0.mk ((hb1.cell (World.block_lt_of_cell? w _ hf0)).trans hf0)
  have HRW1 := Aside0.mk (HRW.out.below hb1)
  have HI1 := Aside0.mk (HI0.out.below hb1)
  have HC1 := Aside0.mk (Kd.C_below HC.out hb1)
  have HB1 := Aside0.mk hb1
  clear hf hf0 hll HRW HI0 HC hb1
  go_enter Try.func25, Try.ntmps25
  go_wp2_with (fail)
  generalize hW : (World.alloc _ _ : World) = w1
  rw [hW] at HF0 HRW1 HI1 HC1 HB1
  have hs0 : w1.cell? ⟨w.heap.size, 0, none⟩ = some (.bool e) := by rw [← hW]; refine (World.cell?_alloc_at _ _ _ _ rfl).trans ?_; rfl
  have hs1 : w1.cell? ⟨w.heap.size, 1, none⟩ = some (.bool (!e)) := by rw [← hW]; refine (World.cell?_alloc_at _ _ _ _ rfl).trans ?_; rfl
  obtain ⟨g7, hg7⟩ : ∃ g7, w.heap.size = g7 := ⟨_, rfl⟩
  rw [hg7] at hs0 hs1 ⊢
  have HS01 := Aside0.mk (And.intro hs0 hs1)
  clear hx hrc harc hW hg7 hs0 hs1
  obtain ⟨d', rfl⟩ : ∃ d', d = d' + 1 := ⟨d - 1, by omega⟩
  have c1 : ((L : Int) == (long : Int)) = false := beq_eq_false_iff_ne.2 (by have := HS.out; omega)
  have c1n : (L = long) = False := eq_false (by have := HS.out; omega)
  clear hd0
  obtain ⟨ne, hne⟩ : ∃ ne, (!e) = ne := ⟨_, rfl⟩
  rw [hne] at HS01 HIH ⊢
  have HNE := Aside0.mk hne
  clear hne
  have HSR := Aside0.mk (show srchT N ms (long % 2 == 1) (d' + 1) way = ((List.range N).drop 0).findSome? (fun j : Nat => if j ∈ T then (if (j : Int) ∈ way then none else srchT N ms (long % 2 == 1) d' (way ++ [(j : Int)])) else none) by rw [srchT, HLF.out.1, HT.out, List.drop_zero])
  go_loopw [25] (fun v25 wr => ∃ j : Nat, j ≤ N ∧ v25 = .int .i64 (j : Int) ∧ Aside0 (Below w1.heap.size w1 wr) ∧ Aside0 (srchT N ms (long % 2 == 1) (d' + 1) way = ((List.range N).drop j).findSome? (fun j : Nat => if j ∈ T then (if (j : Int) ∈ way then none else srchT N ms (long % 2 == 1) d' (way ++ [(j : Int)])) else none))) (fun v25 _ => N - (intOf v25).toNat)
  case atStart => exact ⟨0, by omega, rfl, ⟨Below.refl _ _⟩, HSR⟩
  case round =>
    clear HSR
    obtain ⟨j, hj, rfl, HBW, HSR⟩ := hrel
    by_cases hjN : j < N
    · have d1 : decide ((j : Int) < (N : Int)) = true := decide_eq_true (by omega)
      have d1n : (j < N) = True := eq_true hjN
      have hrw := HRW1.out.below HBW.out
      have hc0 := hrw.c0 (j := j) (by rw [rowOf_len]; exact hjN)
      have hc1 := hrw.c1 (j := j) (by rw [rowOf_len]; exact hjN)
      rw [rowOf_getD N T j hjN] at hc1
      have HIW := Aside0.mk (HI1.out.below HBW.out)
      have f1 := old1 ((HBW.out.cell (World.block_lt_of_cell? w1 _ HS01.out.1)).trans HS01.out.1)
      have f2 := old1 ((HBW.out.cell (World.block_lt_of_cell? w1 _ HS01.out.2)).trans HS01.out.2)
      have f3 := old2 HIW.out.l
      have HJ0 := Aside0.mk hjN
      have HJ1 := Aside0.mk (show j + 1 ≤ N from hjN)
      have HMS := Aside0.mk (mstepA hjN (show N ≤ 1000 by have := HX.out; omega))
      have HVI := Aside0.mk (vI (show j ≤ 1000000 by have := HX.out; omega))
      have hjR : j < (List.range N).length := by rw [List.length_range]; exact hjN
      have hs := HSR.out
      rw [List.drop_eq_getElem_cons hjR, List.findSome?_cons, List.getElem_range] at hs
      obtain ⟨b, hb⟩ : ∃ b, decide (j ∈ T) = b := ⟨_, rfl⟩
      rw [hb] at hc1
      cases b with
      | false =>
        rw [if_neg (of_decide_eq_false hb)] at hs
        have HS1 := Aside0.mk hs
        clear hs hb hrw hjR HSR
        cases e
        all_goals
          first
            | (obtain rfl : true = ne := HNE.out)
            | (obtain rfl : false = ne := HNE.out)
          go_wp2_with (fail)
          exact ⟨⟨j + 1, HJ1.out, HVI.out, ⟨HBW.out.trans ((below2 _ _ _).mono HBW.out.size)⟩, HS1⟩, HMS.out⟩
      | true =>
        rw [if_pos (of_decide_eq_true hb)] at hs
        have HS1 := Aside0.mk hs
        clear hs hb hrw hjR HSR
        cases e with
        | false => exact absurd HSEL.out (by decide)
        | true =>
            obtain rfl : false = ne := HNE.out
            go_wp2_with (fail)
            generalize hW9 : (World.alloc _ _ : World) = w9
            have hb9 : Below wr.heap.size wr w9 := by rw [← hW9]; exact below2 _ _ _
            obtain ⟨g12, hg12⟩ : ∃ g12, wr.heap.size + 1 = g12 := ⟨_, rfl⟩
            have hh9 := alloc2_new wr (.cells #[.bool false, .bool true] 65) (.cells #[.bool false, .bool true] 65)
            rw [hW9, hg12] at hh9
            have hs9 : w9.cell? ⟨g12, 0, none⟩ = some (.bool false) := by
              unfold World.cell?
              rw [hh9]
              rfl
            have ht9 : w9.cell? ⟨g12, 1, none⟩ = some (.bool true) := by
              unfold World.cell?
              rw [hh9]
              rfl
            rw [hg12]
            have hc9 := Kd.C_below HC1.out (HBW.out.trans (hb9.mono HBW.out.size))
            have HC9 := Aside0.mk hc9
            have HI9 := Aside0.mk (HIW.out.below hb9)
            have HBW9 := Aside0.mk (HBW.out.trans (hb9.mono HBW.out.size))
            have HX9 := Lib.hid (HCO.out (j : Int) w9 hc9)
            clear hW9 hb9 hg12 hh9 hc9 f1 f2 f3 hc0 hc1
            by_cases hjw : (j : Int) ∈ way
            · have q1 : decide ((j : Int) ∈ way) = true := decide_eq_true hjw
              rw [q1] at HX9
              have hs := HS1.out
              rw [if_pos hjw] at hs
              have HS2 := Aside0.mk hs
              clear hs HS1 q1 hjw
              refine HX9.out.mono ?_; rintro _ wb ⟨rfl, rfl⟩
              go_wp2_with (fail)
              go_roundw
              case rel => exact ⟨j + 1, HJ1.out, HVI.out, HBW9, HS2⟩
              case measure => exact HMS.out
            · have q1 : decide ((j : Int) ∈ way) = false := decide_eq_false hjw
              rw [q1] at HX9
              have hs := HS1.out
              rw [if_neg hjw] at hs
              have HS2 := Aside0.mk hs
              clear hs HS1 q1 hjw
              refine HX9.out.mono ?_; rintro _ wb ⟨rfl, rfl⟩
              have hon := HI9.out.on
              have r1 := old1 hon
              have r2 := old1 hs9
              have r3 := old1 ht9
              have HST := Aside0.mk (And.intro hs9 ht9)
              go_wp2_with (fail)
              have HWJ := Aside0.mk (show WayN N (way ++ [(j : Int)]) from ⟨by simp, by have := HS.out; have := hlong; rw [List.length_append, List.length_singleton]; omega, fun y hy => by rcases List.mem_append.1 hy with h | h; exact HW.out.2.2 y h; rw [List.mem_singleton] at h; rw [h]; have := HJ0.out; omega⟩)
              have HLJ := Aside0.mk (show (way ++ [(j : Int)]).length = L + 1 by rw [List.length_append, List.length_singleton, HLW.out])
              go_region_law (first
                | (refine step_cut_own (W := wb.drew) rfl (.tmp 101) (.tmp 103) 23 rfl Try.underlying23 info3c (some ad) way L HLW.out HL100.out (j : Int) (by simp [Act.eval, Act.put]) (by simp [Act.eval, Act.put]) ?hC ?_; (case hC => exact Kd.C_drew HC9.out); intro v51 w51 ho51 hb51; obtain ⟨A51, c51, e51, hl51, hc51⟩ := Kd.R_reads ho51; rw [HLJ.out] at e51 hl51 hc51; subst e51; have HB51 := Aside0.mk hb51; have HC51 := Aside0.mk (And.intro hl51 hc51); have hon51 := ((HI9.out.below ((Below.refl _ _).drew)).below HB51.out).on; have hsa51 : w51.cell? ⟨g12, 0, none⟩ = some (.bool false) := ((((Below.refl _ _).drew).trans HB51.out).cell (World.block_lt_of_cell? wb _ HST.out.1)).trans HST.out.1; have hsb51 : w51.cell? ⟨g12, 1, none⟩ = some (.bool true) := ((((Below.refl _ _).drew).trans HB51.out).cell (World.block_lt_of_cell? wb _ HST.out.2)).trans HST.out.2; clear hb51 hl51 hc51 ho51)
                | (go_simp; refine (HIH.out d' rfl (j : Int) HWJ.out (L + 1) HLJ.out A51 c51 w51 HC51.out.2 HC51.out.1 ((HI9.out.below ((Below.refl _ _).drew)).below HB51.out)).mono ?_; intro e w52 hp52; obtain ⟨A52, n52, c52, rfl, HB52, HP52⟩ := srch_shape hp52; clear hp52))
              all_goals
                have hbw := HBW9.out.trans ((((Below.refl wb.heap.size wb).drew.trans (HB51.out.mono (Nat.le_refl _))).trans (HB52.out.mono HB51.out.size)).mono HBW9.out.size)
                have HBF := Aside0.mk hbw
                obtain ⟨r, hr⟩ : ∃ r, srchT N ms (long % 2 == 1) d' (way ++ [(j : Int)]) = r := ⟨_, rfl⟩
                have hs3 := HS2.out
                have hp3 := HP52.out
                rw [hr] at hs3 hp3
                clear HS2 HP52 hbw hr r1 r2 r3 hon51 hsa51 hsb51 hon hs9 ht9
                cases r with
                | none =>
                  have HS4 := Aside0.mk hs3
                  have e0 : A52.isNone = true := by rw [hp3.1]; rfl
                  clear hs3 hp3
                  go_wp2_with (fail)
                  go_roundw
                  case rel => exact ⟨j + 1, HJ1.out, HVI.out, HBF, HS4⟩
                  case measure => exact HMS.out
                | some l =>
                  have HS4 := Aside0.mk hs3
                  have e0 : A52.isNone = false := by obtain ⟨_, _, _, ad5, e, _⟩ := hp3; rw [e]; rfl
                  have HC5 := Aside0.mk hp3
                  clear hs3 hp3
                  go_wp2_with (fail)
                  go_ret
                  obtain ⟨hl1, hl2, rfl, ad5, rfl, hc5⟩ := HC5.out
                  rw [HS4.out]
                  exact ⟨HB1.out.trans (HBF.out.mono HB1.out.size), hl1, hl2, ad5, c52, rfl, hc5⟩
    · have d1 : decide ((j : Int) < (N : Int)) = false := decide_eq_false (by omega)
      have d1n : (j < N) = False := eq_false hjN
      have hsr := HSR.out
      rw [List.drop_eq_nil_of_le (by rw [List.length_range]; omega), List.findSome?_nil] at hsr
      have HSR2 := Aside0.mk hsr
      clear hsr HSR
      go_wp2_with (fail)
      go_ret
      rw [HSR2.out]
      exact ⟨HB1.out.trans (HBW.out.mono HB1.out.size), rfl⟩
end Go.Proofs.Ytagmadfllfcloaa.PC
end
section
set_option linter.unusedVariables false
set_option linter.unusedSimpArgs false
/- truth.Cycle's closure: the walk, part 3. -/
namespace Go.Proofs.Ytagmadfllfcloaa.PC
open Go.RowKit Go.Proofs.YtagmadfllfcloaaW.PrintWords Go.Proofs.YtagmadfllfcloaaW.PrintLast Go.Proofs.YtagmadfllfcloaaW.PrintMore
set_option linter.unusedVariables false
set_option linter.unusedSimpArgs false
attribute [local go_sem] run_store_func sl_neq
theorem cyc_on (N : Nat) (hN : N ≤ 10) (ms : List (List Nat)) (gO garc gl godd gon long : Nat) (hlong : long ≤ 12) : ∀ d, CycOn N ms gO garc gl godd gon long d := by
  intro d
  induction d using Nat.strongRecOn with
  | ind d ih =>
    by_cases hd : d = 0
    · exact cyc_zero N hN ms gO garc gl godd gon long hlong d ih hd
    · intro way h1 h2 e he
      cases e with
      | false => exact cyc_false N hN ms gO garc gl godd gon long hlong d ih hd way h1 h2 false he rfl
      | true => exact cyc_true N hN ms gO garc gl godd gon long hlong d ih hd way h1 h2 true he rfl
end Go.Proofs.Ytagmadfllfcloaa.PC
end
section
set_option linter.unusedVariables false
set_option linter.unusedSimpArgs false
/- shave.Kernel: the walk. -/
namespace Go.Proofs.Ytagmadfllfcloaa.PC
open Go.RowKit Go.Proofs.YtagmadfllfcloaaW.PrintWords Go.Proofs.YtagmadfllfcloaaW.PrintLast Go.Proofs.YtagmadfllfcloaaW.PrintMore
set_option linter.unusedVariables false
set_option linter.unusedSimpArgs false
theorem townE_zero' {n : Int} {l : List S41} (h : townE n l = 0) : 1 ≤ n ∧ n ≤ 12 ∧ l.all (inT n) = true := by
  unfold townE at h
  by_cases c1 : n < 1 ∨ 12 < n
  · rw [if_pos c1] at h; omega
  by_cases c2 : 80 < l.length
  · rw [if_neg c1, if_pos c2] at h; omega
  by_cases c3 : l.all (inT n) = true
  · exact ⟨by omega, by omega, c3⟩
  · rw [if_neg c1, if_neg c2, if_neg c3] at h; omega
/-- What Kernel tells. -/
def KerPost (n : Int) (l1 : List S41) (E : Int) (l : List Int) : Prop := (townE n l1 ≠ 0 ∧ E = townE n l1 ∧ l = []) ∨ (townE n l1 = 0 ∧ FirstPost n.toNat (townO l1) E l)
def KerEnd (n : Int) (l1 : List S41) (w : World) (e : Ending) (w' : World) : Prop := ∃ v E l, e = .returned (.tuple #[v, .int .i64 E]) ∧ Kd.R (Kd.int .i64) 3 w' w.heap.size (fun _ => True) v l ∧ KerPost n l1 E l ∧ Below w.heap.size w w'
set_option maxHeartbeats 8000000 in
set_option maxRecDepth 100000 in
theorem kernel_calls (n : Int) (A1 : Option Addr) (c1 : Nat) (l1 : List S41) (w : World) (hr1 : Kd.C k41 w A1 l1.length l1) :
    Calls Try.prog 9 #[.int .i64 n, .slice A1 l1.length c1] w (KerEnd n l1 w) := by
  have HOF := Lib.hid (shave_of n A1 c1 l1 w hr1)
  clear hr1
  obtain ⟨N, hN⟩ : ∃ N, l1.length = N := ⟨_, rfl⟩
  rw [hN] at HOF ⊢
  clear hN
  go_enter Try.func9, Try.ntmps9
  go_wp2_with (fail)
  refine HOF.out.mono ?_; rintro e wa ⟨⟨T, E, rfl, hE, n', o', ho', rfl, hP⟩, hb⟩
  obtain ⟨o0, o1, o2, o3, o4, o5, o6, o7, o8, o9, o10, o11, rfl⟩ := len12 ho'
  rw [show townV n' [o0, o1, o2, o3, o4, o5, o6, o7, o8, o9, o10, o11] = .agg #[.int .i64 n', .int .i64 (o0 : Int), .int .i64 (o1 : Int), .int .i64 (o2 : Int), .int .i64 (o3 : Int), .int .i64 (o4 : Int), .int .i64 (o5 : Int), .int .i64 (o6 : Int), .int .i64 (o7 : Int), .int .i64 (o8 : Int), .int .i64 (o9 : Int), .int .i64 (o10 : Int), .int .i64 (o11 : Int)] from rfl]
  have HB := Aside0.mk hb
  have HP := Aside0.mk hP
  have HE := Aside0.mk hE
  clear hb hP hE ho'
  by_cases cE : E = 0
  · subst cE
    obtain ⟨rfl, hto⟩ := HP.out rfl
    have HZ0 := Aside0.mk HE.out.symm
    clear HP HE
    have h1n := townE_zero' HZ0.out
    obtain ⟨M, rfl⟩ := Int.eq_ofNat_of_zero_le (show 0 ≤ n' by omega)
    have HTO := Aside0.mk hto
    have HFI := Lib.hid (fun (gt : Nat) (wr : World) (ht : TownAt wr gt (M : Int) [o0, o1, o2, o3, o4, o5, o6, o7, o8, o9, o10, o11]) => first_walk M (by omega) o0 o1 o2 o3 o4 o5 o6 o7 o8 o9 o10 o11 (fun j => by rw [hto]; exact townO_lt l1 (M : Int) h1n.2.1 h1n.2.2 j) gt wr ht)
    unfold townL at HFI
    clear h1n hto
    go_wp2_with (fail)
    generalize hW : (World.alloc _ _ : World) = w1
    obtain ⟨gt, hgt⟩ : ∃ gt, gt = wa.heap.size := ⟨_, rfl⟩
    have ht : TownAt w1 gt (M : Int) [o0, o1, o2, o3, o4, o5, o6, o7, o8, o9, o10, o11] := by rw [← hW, hgt]; exact alloc1_newT wa _
    have hb1 : Below w.heap.size w w1 := by rw [← hW]; exact HB.out.alloc HB.out.size _
    rw [← hgt]
    have HB1 := Aside0.mk hb1
    clear hW hb1 HB hgt
    refine (HFI.out gt w1 ht).mono ?_
    rintro e w2 ⟨v, E, l, rfl, hr, hf, hb2⟩
    have HR := Aside0.mk hr
    have HF := Aside0.mk hf
    have HB2 := Aside0.mk hb2
    clear hr hf hb2 ht
    go_wp2_with (fail)
    go_ret2
    exact ⟨_, _, l, rfl, Kd.R_lower HR.out HB1.out.size, .inr ⟨HZ0.out, by rw [← HTO.out]; exact HF.out⟩, HB1.out.trans (HB2.out.mono HB1.out.size)⟩
  · have d1 : (E == 0) = false := beq_eq_false_iff_ne.2 cE
    have d1n : (E = 0) = False := eq_false cE
    have HC := Aside0.mk cE
    clear cE HP
    go_wp2
    go_ret2
    exact ⟨_, _, [], rfl, Kd.R_nil _ _ _ _ _, .inl ⟨by rw [← HE.out]; exact HC.out, HE.out, rfl⟩, HB.out.alloc HB.out.size _⟩
end Go.Proofs.Ytagmadfllfcloaa.PC
end
section
set_option linter.unusedVariables false
set_option linter.unusedSimpArgs false
/- shave.Odd: the walk. -/
namespace Go.Proofs.Ytagmadfllfcloaa.PC
open Go.RowKit Go.Proofs.YtagmadfllfcloaaW.PrintWords Go.Proofs.YtagmadfllfcloaaW.PrintLast Go.Proofs.YtagmadfllfcloaaW.PrintMore
set_option linter.unusedVariables false
set_option linter.unusedSimpArgs false
attribute [local go_sem] run_store_func sl_neq
theorem C_one (w : World) (v : Int) : Kd.C (Kd.int .i64) (w.alloc (.cells #[.int .i64 v] 3)) (some ⟨w.heap.size, 0, none⟩) 1 [v] := by
  refine Kd.C_of_reads (d := (0 : Int)) ⟨rfl, by decide, fun _ => ⟨_, rfl, fun i hi => ?_⟩⟩
  obtain rfl : i = 0 := by omega
  show (w.alloc (.cells #[.int .i64 v] 3)).cell? ⟨w.heap.size, 0, none⟩ = _
  rw [World.cell?_alloc_at _ _ _ _ rfl]; rfl
/-- The round of one length. -/
def oddG (n : Nat) (o : List Nat) (k : Nat) : Option (List Int) := if k % 2 = 0 then srchAt n o (k + 1) else none
theorem odd_step (n : Nat) (o : List Nat) (lg : Nat) (h1 : lg % 2 = 1) (h2 : lg ≤ n) : ((List.range n).drop (lg - 1)).findSome? (oddG n o) = match srchAt n o lg with
    | some l => some l
    | none => ((List.range n).drop (lg + 1)).findSome? (oddG n o) := by
  obtain ⟨k, rfl⟩ : ∃ k, lg = k + 1 := ⟨lg - 1, by omega⟩
  have hk : k < (List.range n).length := by rw [List.length_range]; omega
  rw [Nat.add_sub_cancel, List.drop_eq_getElem_cons hk, List.findSome?_cons, List.getElem_range]
  have e1 : oddG n o k = srchAt n o (k + 1) := by unfold oddG; rw [if_pos (by omega)]
  rw [e1]
  cases srchAt n o (k + 1) with
  | some l => rfl
  | none =>
    show ((List.range n).drop (k + 1)).findSome? (oddG n o) = ((List.range n).drop (k + 1 + 1)).findSome? (oddG n o)
    by_cases hn : k + 1 < n
    · have hk1 : k + 1 < (List.range n).length := by rw [List.length_range]; omega
      have e2 : oddG n o (k + 1) = none := by unfold oddG; rw [if_neg (by omega)]
      rw [List.drop_eq_getElem_cons hk1, List.findSome?_cons, List.getElem_range, e2]
    · rw [List.drop_eq_nil_of_le (by rw [List.length_range]; omega), List.drop_eq_nil_of_le (by rw [List.length_range]; omega)]
/-- What Odd tells. -/
def OddPost (n : Int) (l1 : List S41) (E : Int) (l : List Int) : Prop := (townE n l1 ≠ 0 ∧ E = townE n l1 ∧ l = []) ∨ (townE n l1 = 0 ∧ (l, E) = oddF n.toNat (townO l1) ∧ l.length ≤ 12)
def OddEnd (n : Int) (l1 : List S41) (w : World) (e : Ending) (w' : World) : Prop := ∃ A c E l, e = .returned (.tuple #[.slice A l.length c, .int .i64 E]) ∧ Kd.C (Kd.int .i64) w' A l.length l ∧ OddPost n l1 E l ∧ Below w.heap.size w w'
/-- The length that is tried. -/
def longAt (v : Value) (w : World) : Nat := match v with
  | .pointer (some a) => match w.cell? a with
    | some x => (intOf x).toNat
    | none => 0
  | _ => 0
set_option maxHeartbeats 16000000 in
set_option maxRecDepth 100000 in
theorem odd_walk (n : Int) (A1 : Option Addr) (c1 : Nat) (l1 : List S41) (w : World) (hr1 : Kd.C k41 w A1 l1.length l1) :
    Calls Try.prog 12 #[.int .i64 n, .slice A1 l1.length c1] w (OddEnd n l1 w) := by
  have HOF := Lib.hid (shave_of n A1 c1 l1 w hr1)
  clear hr1
  obtain ⟨N, hN⟩ : ∃ N, l1.length = N := ⟨_, rfl⟩
  rw [hN] at HOF ⊢
  clear hN
  go_enter Try.func12, Try.ntmps12
  go_wp2_with (fail)
  refine HOF.out.mono ?_; rintro e wa ⟨⟨T, E, rfl, hE, n', o', ho', rfl, hP⟩, hb⟩
  obtain ⟨o0, o1, o2, o3, o4, o5, o6, o7, o8, o9, o10, o11, rfl⟩ := len12 ho'
  rw [show townV n' [o0, o1, o2, o3, o4, o5, o6, o7, o8, o9, o10, o11] = .agg #[.int .i64 n', .int .i64 (o0 : Int), .int .i64 (o1 : Int), .int .i64 (o2 : Int), .int .i64 (o3 : Int), .int .i64 (o4 : Int), .int .i64 (o5 : Int), .int .i64 (o6 : Int), .int .i64 (o7 : Int), .int .i64 (o8 : Int), .int .i64 (o9 : Int), .int .i64 (o10 : Int), .int .i64 (o11 : Int)] from rfl]
  have HB := Aside0.mk hb
  have HP := Aside0.mk hP
  have HE := Aside0.mk hE
  clear hb hP hE ho'
  by_cases cE : E = 0
  · subst cE
    obtain ⟨rfl, hto⟩ := HP.out rfl
    have HZ0 := Aside0.mk HE.out.symm
    clear HP HE
    have h1n := townE_zero' HZ0.out
    obtain ⟨M, rfl⟩ := Int.eq_ofNat_of_zero_le (show 0 ≤ n' by omega)
    have HTO := Aside0.mk hto
    have HM12 := Aside0.mk (show M ≤ 12 by omega)
    have HON := Lib.hid (fun (gl gon gt long d : Nat) (hlong : long ≤ 12) (i : Nat) (hi : i < 12) (hd : 1 + d = long) (A : Option Addr) (wr : World) (hc : Kd.C (Kd.int .i64) wr A 1 [(i : Int)]) hI => odd_on M (by omega) [o0, o1, o2, o3, o4, o5, o6, o7, o8, o9, o10, o11] rfl (fun j => by rw [hto]; exact townO_lt l1 (M : Int) h1n.2.1 h1n.2.2 j) gl gon gt long hlong d [(i : Int)] hd ⟨by simp, by simp, fun y hy => by rw [List.mem_singleton] at hy; omega⟩ A 1 wr hc (Nat.le_refl 1) hI)
    clear h1n hto
    go_wp2_with (fail)
    generalize hW : (World.alloc _ _ : World) = w1
    obtain ⟨gt, hgt⟩ : ∃ gt, gt = wa.heap.size := ⟨_, rfl⟩
    obtain ⟨g0, hg0⟩ : ∃ g0, g0 = wa.heap.size + 1 := ⟨_, rfl⟩
    obtain ⟨o, ho⟩ : ∃ o, o = [o0, o1, o2, o3, o4, o5, o6, o7, o8, o9, o10, o11] := ⟨_, rfl⟩
    rw [← ho] at HTO
    simp only [← ho] at HON
    have ht : TownAt w1 gt (M : Int) o := by rw [← hW, hgt, ho]; exact alloc2_old wa _ _
    have hl0 : w1.cell? ⟨g0, 0, none⟩ = some (.int .i64 1) := by rw [← hW, hg0]; exact cell_blk (alloc2_new wa _ _)
    have hb1 : Below w.heap.size w w1 := by rw [← hW]; exact (HB.out.alloc HB.out.size _).alloc (Nat.le_trans HB.out.size (by simp)) _
    rw [← hg0, ← hgt]
    have HB1 := Aside0.mk hb1
    have HT1 := Aside0.mk ht
    have HL1 := Aside0.mk hl0
    clear hW hb1 HB hgt hg0 ho ht hl0
    go_loopw [8] (fun v8 wr => ∃ lg gl : Nat, lg % 2 = 1 ∧ lg ≤ M + 2 ∧ v8 = .pointer (some ⟨gl, 0, none⟩) ∧ Aside0 (wr.cell? ⟨gl, 0, none⟩ = some (.int .i64 (lg : Int))) ∧ Aside0 (TownAt wr gt (M : Int) o) ∧ Aside0 (Below w.heap.size w wr) ∧ Aside0 (((List.range M).findSome? (oddG M o)) = ((List.range M).drop (lg - 1)).findSome? (oddG M o))) (fun v8 wr => M + 3 - longAt v8 wr)
    case atStart => exact ⟨1, g0, rfl, by omega, rfl, HL1, HT1, HB1, ⟨rfl⟩⟩
    case round =>
      clear HL1 HT1 HB1
      obtain ⟨lg, gl, hodd, hlg, rfl, HL, HT, HBW, HF⟩ := hrel
      have hcl := HL.out
      by_cases hlM : lg ≤ M
      · have d1 : decide ((lg : Int) ≤ (M : Int)) = true := decide_eq_true (by omega)
        have d1n : (lg ≤ M) = True := eq_true hlM
        have HG := Aside0.mk (And.intro hodd (And.intro hlg hlM))
        clear hodd hlg
        go_wp2_with (fail)
        generalize hW : (World.alloc _ _ : World) = w2
        obtain ⟨gon, hgon⟩ : ∃ gon, gon = wr.heap.size := ⟨_, rfl⟩
        rw [← hgon] at hW ⊢
        have hb2 : Below wr.heap.size wr w2 := by rw [← hW]; exact (Below.refl _ _).alloc (Nat.le_refl _) _
        have hon : w2.cell? ⟨gon, 0, none⟩ = some (.func (.func 27) #[] #[.pointer (some ⟨gt, 0, none⟩), .pointer (some ⟨gl, 0, none⟩), .pointer (some ⟨gon, 0, none⟩)]) := by
          rw [← hW]
          refine (World.cell?_alloc_at _ _ _ _ hgon).trans ?_
          rfl
        have HI2 := Aside0.mk (show InvO M o gl gon gt lg w2 from ⟨(hb2.cell (World.block_lt_of_cell? wr _ hcl)).trans hcl, hon, HT.out.below hb2⟩)
        have HBW2 := Aside0.mk (HBW.out.trans (hb2.mono HBW.out.size))
        have HST := Aside0.mk (odd_step M o lg HG.out.1 HG.out.2.2)
        have e1 : wrap64 ((lg : Int) + 2) = ((lg + 2 : Nat) : Int) := by have := HM12.out; unfold wrap64; push_cast; omega
        have e1' : IntKind.i64.wrap ((lg : Int) + 2) = ((lg + 2 : Nat) : Int) := (i64_w _).trans e1
        clear hW hgon hb2 hon hcl hlM
        go_loopw [28] (fun v28 wr => ∃ i : Nat, i ≤ M ∧ v28 = .int .i64 (i : Int) ∧ Aside0 (Below w2.heap.size w2 wr) ∧ Aside0 (srchAt M o lg = ((List.range M).drop i).findSome? fun i : Nat => srch o (lg - 1) [(i : Int)])) (fun v28 _ => M - (intOf v28).toNat)
        case atStart => exact ⟨0, by omega, rfl, ⟨Below.refl _ _⟩, ⟨rfl⟩⟩
        case round =>
          obtain ⟨i, hi, rfl, HBI, HSI⟩ := hrel
          have HI3 := Aside0.mk (HI2.out.below HBI.out)
          have hon3 := HI3.out.on
          by_cases hiM : i < M
          · have d2 : decide ((i : Int) < (M : Int)) = true := decide_eq_true (by omega)
            have d2n : (i < M) = True := eq_true hiM
            have hiR : i < (List.range M).length := by rw [List.length_range]; exact hiM
            have hs := HSI.out
            rw [List.drop_eq_getElem_cons hiR, List.findSome?_cons, List.getElem_range] at hs
            have HS1 := Aside0.mk hs
            clear hs hiR HSI
            go_wp2_with (fail)
            generalize hW4 : (World.alloc _ _ : World) = w4
            have hb4 : Below wr.heap.size wr w4 := by rw [← hW4]; exact (Below.refl _ _).alloc (Nat.le_refl _) _
            have HB4 := Aside0.mk hb4
            obtain ⟨gi, hgi⟩ : ∃ gi, gi = wr.heap.size := ⟨_, rfl⟩
            have hc4 : Kd.C (Kd.int .i64) w4 (some ⟨gi, 0, none⟩) 1 [(i : Int)] := by rw [← hW4, hgi]; exact C_one wr i
            rw [← hgi]
            clear hW4 hgi
            refine (HON.out gl gon gt lg (lg - 1) (by have := HG.out; have := HM12.out; omega) i (by have := HM12.out; omega) (by have := HG.out; omega) _ w4 hc4 (HI3.out.below hb4)).mono ?_
            intro e w5 hp5
            obtain ⟨A5, n5, c5, rfl, HB5, HP5⟩ := srch_shape hp5
            clear hp5 hc4 hb4
            obtain ⟨r, hr⟩ : ∃ r, srch o (lg - 1) [(i : Int)] = r := ⟨_, rfl⟩
            have hs3 := HS1.out
            have hp3 := HP5.out
            rw [hr] at hs3 hp3
            have HBI5 := Aside0.mk (HBI.out.trans ((HB4.out.trans (HB5.out.mono HB4.out.size)).mono HBI.out.size))
            clear HS1 HP5 hr
            cases r with
            | none =>
              have HS4 := Aside0.mk hs3
              have e0 : A5.isNone = true := by rw [hp3.1]; rfl
              clear hs3 hp3
              go_wp2_with (fail)
              go_roundw
              case rel => exact ⟨i + 1, by omega, vI (by have := HM12.out; omega), HBI5, HS4⟩
              case measure => exact mstepA hiM (by have := HM12.out; omega)
            | some l =>
              have HS4 := Aside0.mk hs3
              have e0 : A5.isNone = false := by obtain ⟨_, _, _, ad5, e, _⟩ := hp3; rw [e]; rfl
              have HC5 := Aside0.mk hp3
              clear hs3 hp3
              go_wp2_with (fail)
              go_ret2
              obtain ⟨hl1, hl2, rfl, ad5, rfl, hc5⟩ := HC5.out
              refine ⟨_, _, _, l, rfl, hc5, .inr ⟨HZ0.out, ?_, hl2⟩, HBW2.out.trans (HBI5.out.mono HBW2.out.size)⟩
              have hf := HF.out
              rw [HST.out, HS4.out] at hf
              rw [← HTO.out]
              show (l, (0 : Int)) = (match (List.range M).findSome? (oddG M o) with | some l => (l, (0 : Int)) | none => ([], 10))
              rw [hf]
          · have d2 : decide ((i : Int) < (M : Int)) = false := decide_eq_false (by omega)
            have d2n : (i < M) = False := eq_false hiM
            have hl3 := HI3.out.l
            have hs := HSI.out
            rw [List.drop_eq_nil_of_le (by rw [List.length_range]; omega), List.findSome?_nil] at hs
            have hst := HST.out
            rw [hs] at hst
            have HF2 := Aside0.mk (HF.out.trans hst)
            clear hs hst HSI HST
            go_wp2_with (fail)
            generalize hW6 : (World.alloc _ _ : World) = w6
            have hb6 : Below wr.heap.size wr w6 := by rw [← hW6]; exact (Below.refl _ _).alloc (Nat.le_refl _) _
            have hc6 : w6.cell? ⟨wr.heap.size, 0, none⟩ = some (.int .i64 ((lg + 2 : Nat) : Int)) := by
              rw [← hW6]
              refine (World.cell?_alloc_at _ _ _ _ rfl).trans ?_
              rw [Int.natCast_add]; rfl
            refine ⟨⟨lg + 2, wr.heap.size, by have := HG.out; omega, by have := HG.out; omega, rfl, ⟨hc6⟩, ⟨HI3.out.t.below hb6⟩, ⟨HBW2.out.trans ((HBI.out.trans (hb6.mono HBI.out.size)).mono HBW2.out.size)⟩, HF2⟩, ?_⟩
            show M + 3 - longAt (.pointer (some ⟨wr.heap.size, 0, none⟩)) w6 < M + 3 - longAt (.pointer (some ⟨gl, 0, none⟩)) _
            have q1 : longAt (.pointer (some ⟨wr.heap.size, 0, none⟩)) w6 = lg + 2 := by unfold longAt; simp only [hc6]; exact Int.toNat_natCast _
            have q2 := HL.out
            unfold longAt at q1 ⊢
            rw [q1]
            simp only [q2]
            show _ < M + 3 - ((lg : Int)).toNat
            have := HG.out
            omega
      · have d1 : decide ((lg : Int) ≤ (M : Int)) = false := decide_eq_false (by omega)
        have d1n : (lg ≤ M) = False := eq_false hlM
        have hf := HF.out
        rw [List.drop_eq_nil_of_le (by rw [List.length_range]; omega), List.findSome?_nil] at hf
        have HF2 := Aside0.mk (show oddF M (townO l1) = ([], 10) by rw [← HTO.out]; show (match (List.range M).findSome? (oddG M o) with | some l => (l, (0 : Int)) | none => ([], 10)) = _; rw [hf])
        clear HF hf hodd hlg
        go_wp2_with (fail)
        go_ret2
        exact ⟨_, _, _, [], rfl, Kd.C_nil _ _, .inr ⟨HZ0.out, HF2.out.symm, by simp⟩, HBW.out⟩
  · have d1 : (E == 0) = false := beq_eq_false_iff_ne.2 cE
    have d1n : (E = 0) = False := eq_false cE
    have HC := Aside0.mk cE
    clear cE HP
    go_wp2
    go_ret2
    exact ⟨_, _, _, [], rfl, Kd.C_nil _ _, .inl ⟨by rw [← HE.out]; exact HC.out, HE.out, rfl⟩, HB.out.alloc HB.out.size _⟩
end Go.Proofs.Ytagmadfllfcloaa.PC
end
section
set_option linter.unusedVariables false
set_option linter.unusedSimpArgs false
/- truth.Cycle: the walk. -/
namespace Go.Proofs.Ytagmadfllfcloaa.PC
open Go.RowKit Go.Proofs.YtagmadfllfcloaaW.PrintWords Go.Proofs.YtagmadfllfcloaaW.PrintLast Go.Proofs.YtagmadfllfcloaaW.PrintMore
set_option linter.unusedVariables false
set_option linter.unusedSimpArgs false
attribute [local go_sem] run_store_func sl_neq
/-- One length's round. -/
def cycG (N : Nat) (ms : List (List Nat)) (k : Nat) : Option (List Int) := (List.range N).findSome? fun i : Nat => srchT N ms ((k + 1) % 2 == 1) k [(i : Int)]
/-- A shortest odd cycle by truth, and the error. -/
def cycF (N : Nat) (ms : List (List Nat)) : List Int × Int := match (List.range N).findSome? (cycG N ms) with
  | some l => (l, 0)
  | none => ([], 10)
theorem cyc_step (N : Nat) (ms : List (List Nat)) (k : Nat) (h : k < N) : ((List.range N).drop k).findSome? (cycG N ms) = match cycG N ms k with
    | some l => some l
    | none => ((List.range N).drop (k + 1)).findSome? (cycG N ms) := by
  have hk : k < (List.range N).length := by rw [List.length_range]; omega
  rw [List.drop_eq_getElem_cons hk, List.findSome?_cons, List.getElem_range]
  cases cycG N ms k <;> rfl
def CycEnd (N : Nat) (ms : List (List Nat)) (w : World) (e : Ending) (w' : World) : Prop := ∃ A c E l, e = .returned (.tuple #[.slice A l.length c, .int .i64 E]) ∧ Kd.C (Kd.int .i64) w' A l.length l ∧ (l, E) = cycF N ms ∧ l.length ≤ 12 ∧ Below w.heap.size w w'
set_option maxHeartbeats 16000000 in
set_option maxRecDepth 100000 in
theorem cycle_walk (ms : List (List Nat)) (N : Nat) (hN : ms.length = N) (h1 : 1 ≤ N) (h2 : N ≤ 10) (hms : ∀ m ∈ ms, (∀ x ∈ m, x < N) ∧ (combS m).length ≤ 40) (A0 : Option Addr) (c0 : Nat) (w : World) (hr0 : Kd.C Kd.string w A0 N (ms.map combB)) :
    Calls Try.prog 11 #[.slice A0 N c0, .bool true] w (CycEnd N ms w) := by
  have HOF := Lib.hid (fun (wr : World) hr => of_comb ms N hN h1 h2 hms A0 c0 wr hr)
  have HAR := Lib.hid (fun (A : Option Addr) (c : Nat) (wr : World) hr => arcs_walk ms N hN h2 (fun m hm => (hms m hm).1) A c wr hr)
  have HON := Lib.hid (fun (gO garc gl godd gon long d : Nat) (hlong : long ≤ 12) (i : Nat) (hi : i < N) (hd : 1 + d = long) (A : Option Addr) (wr : World) (hc : Kd.C (Kd.int .i64) wr A 1 [(i : Int)]) hI => cyc_on N h2 ms gO garc gl godd gon long hlong d [(i : Int)] hd ⟨by simp, by simp, fun y hy => by rw [List.mem_singleton] at hy; omega⟩ true rfl A 1 wr hc (Nat.le_refl 1) hI)
  have HR0 := Aside0.mk hr0
  have HN := Aside0.mk (And.intro hN (And.intro h1 h2))
  clear hms hr0 hN h1 h2
  have hb1 : Below w.heap.size w (w.alloc (.cells #[.bool true] 4)) := (Below.refl _ _).alloc (Nat.le_refl _) _
  go_enter Try.func11, Try.ntmps11
  go_wp2_with (fail)
  generalize hW : (World.alloc _ _ : World) = w1
  rw [hW] at hb1
  obtain ⟨godd, hgo⟩ : ∃ godd, godd = w.heap.size := ⟨_, rfl⟩
  rw [← hgo]
  have hodd : w1.cell? ⟨godd, 0, none⟩ = some (.bool true) := by
    rw [← hW]
    refine (World.cell?_alloc_at _ _ _ _ hgo).trans ?_
    rfl
  have HB1 := Aside0.mk hb1
  have HD1 := Aside0.mk hodd
  clear hW hb1 hgo hodd
  refine (HOF.out w1 (Kd.C_below HR0.out HB1.out)).mono ?_; rintro e w2 ⟨v6, rfl, hr6, hb2⟩
  obtain ⟨A6, c6, rfl⟩ := Kd.R_slice hr6
  have hc6 := (Kd.R_reads' hr6).2.2
  have hn6 := HN.out.1
  rw [hn6] at hc6 ⊢
  have HC6 := Aside0.mk hc6
  have HB2 := Aside0.mk (HB1.out.trans (hb2.mono HB1.out.size))
  have HD2 := Aside0.mk ((hb2.cell (World.block_lt_of_cell? w1 _ HD1.out)).trans HD1.out)
  clear hr6 hc6 hn6 hb2 HB1 HD1
  go_wp2_with (fail)
  refine (HAR.out A6 c6 w2 HC6.out).mono ?_; rintro e w3 ⟨gO, rfl, ha, hb3⟩
  have HA3 := Aside0.mk ha
  have HB3 := Aside0.mk (HB2.out.trans (hb3.mono HB2.out.size))
  have HD3 := Aside0.mk ((hb3.cell (World.block_lt_of_cell? w2 _ HD2.out)).trans HD2.out)
  clear ha hb3 HB2 HD2 HC6
  go_wp2_with (fail)
  generalize hW : (World.alloc _ _ : World) = w4
  obtain ⟨garc, hga⟩ : ∃ garc, garc = w3.heap.size := ⟨_, rfl⟩
  obtain ⟨g0, hg0⟩ : ∃ g0, g0 = w3.heap.size + 1 := ⟨_, rfl⟩
  have hb4 : Below w3.heap.size w3 w4 := by rw [← hW]; exact below2 _ _ _
  have harc : w4.cell? ⟨garc, 0, none⟩ = some (.slice (some ⟨gO, 0, none⟩) N N) := by rw [← hW, hga]; exact cell_blk (alloc2_old w3 _ _)
  have hl0 : w4.cell? ⟨g0, 0, none⟩ = some (.int .i64 1) := by rw [← hW, hg0]; exact cell_blk (alloc2_new w3 _ _)
  rw [← hg0, ← hga]
  have HB4 := Aside0.mk (HB3.out.trans (hb4.mono HB3.out.size))
  have HD4 := Aside0.mk ((hb4.cell (World.block_lt_of_cell? w3 _ HD3.out)).trans HD3.out)
  have HA4 := Aside0.mk (HA3.out.below hb4)
  have HG4 := Aside0.mk harc
  have HL4 := Aside0.mk hl0
  clear hW hga hg0 hb4 harc hl0 HB3 HD3 HA3
  go_loopw [9] (fun v9 wr => ∃ lg gl : Nat, 1 ≤ lg ∧ lg ≤ N + 1 ∧ v9 = .pointer (some ⟨gl, 0, none⟩) ∧ Aside0 (wr.cell? ⟨gl, 0, none⟩ = some (.int .i64 (lg : Int))) ∧ Aside0 (Below w4.heap.size w4 wr) ∧ Aside0 (((List.range N).findSome? (cycG N ms)) = ((List.range N).drop (lg - 1)).findSome? (cycG N ms))) (fun v9 wr => N + 3 - longAt v9 wr)
  case atStart => exact ⟨1, g0, by omega, by omega, rfl, HL4, ⟨Below.refl _ _⟩, ⟨rfl⟩⟩
  case round =>
    clear HL4
    obtain ⟨lg, gl, hodd, hlg, rfl, HL, HBW, HF⟩ := hrel
    have hcl := HL.out
    by_cases hlM : lg ≤ N
    · have d1 : decide ((lg : Int) ≤ (N : Int)) = true := decide_eq_true (by omega)
      have d1n : (lg ≤ N) = True := eq_true hlM
      have HG := Aside0.mk (And.intro hodd (And.intro hlg hlM))
      clear hodd hlg
      go_wp2_with (fail)
      generalize hW : (World.alloc _ _ : World) = w5
      obtain ⟨gon, hgon⟩ : ∃ gon, gon = wr.heap.size := ⟨_, rfl⟩
      rw [← hgon] at hW ⊢
      have hb5 : Below wr.heap.size wr w5 := by rw [← hW]; exact (Below.refl _ _).alloc (Nat.le_refl _) _
      have hon : w5.cell? ⟨gon, 0, none⟩ = some (.func (.func 25) #[] #[.pointer (some ⟨garc, 0, none⟩), .pointer (some ⟨gl, 0, none⟩), .pointer (some ⟨godd, 0, none⟩), .pointer (some ⟨gon, 0, none⟩)]) := by
        rw [← hW]
        refine (World.cell?_alloc_at _ _ _ _ hgon).trans ?_
        rfl
      have hb45 := HBW.out.trans (hb5.mono HBW.out.size)
      have HI5 := Aside0.mk (show InvC N ms gO garc gl godd gon lg w5 from ⟨(hb45.cell (World.block_lt_of_cell? w4 _ HG4.out)).trans HG4.out, (hb5.cell (World.block_lt_of_cell? wr _ hcl)).trans hcl, (hb45.cell (World.block_lt_of_cell? w4 _ HD4.out)).trans HD4.out, hon, HA4.out.below hb45⟩)
      have HB5 := Aside0.mk hb45
      have hst := cyc_step N ms (lg - 1) (by have := HG.out; omega)
      rw [show lg - 1 + 1 = lg by have := HG.out; omega] at hst
      have HST := Aside0.mk hst
      have HGD := Aside0.mk (show cycG N ms (lg - 1) = (List.range N).findSome? fun i : Nat => srchT N ms (lg % 2 == 1) (lg - 1) [(i : Int)] by unfold cycG; rw [show lg - 1 + 1 = lg by have := HG.out; omega])
      have e1 : wrap64 ((lg : Int) + 1) = ((lg + 1 : Nat) : Int) := wI (by have := HG.out; have := HN.out; omega)
      have e1' : IntKind.i64.wrap ((lg : Int) + 1) = ((lg + 1 : Nat) : Int) := (i64_w _).trans e1
      clear hW hgon hb5 hon hcl hlM hb45 hst
      go_loopw [32] (fun v32 wi => ∃ i : Nat, i ≤ N ∧ v32 = .int .i64 (i : Int) ∧ Aside0 (Below w5.heap.size w5 wi) ∧ Aside0 (cycG N ms (lg - 1) = ((List.range N).drop i).findSome? fun i : Nat => srchT N ms (lg % 2 == 1) (lg - 1) [(i : Int)])) (fun v32 _ => N - (intOf v32).toNat)
      case atStart => exact ⟨0, by omega, rfl, ⟨Below.refl _ _⟩, HGD⟩
      case round =>
        clear HGD
        obtain ⟨i, hi, rfl, HBI, HSI⟩ := hrel
        have HI3 := Aside0.mk (HI5.out.below HBI.out)
        have hon3 := HI3.out.on
        by_cases hiM : i < N
        · have d2 : decide ((i : Int) < (N : Int)) = true := decide_eq_true (by omega)
          have d2n : (i < N) = True := eq_true hiM
          have hiR : i < (List.range N).length := by rw [List.length_range]; exact hiM
          have hs := HSI.out
          rw [List.drop_eq_getElem_cons hiR, List.findSome?_cons, List.getElem_range] at hs
          have HS1 := Aside0.mk hs
          clear hs hiR HSI
          go_wp2_with (fail)
          generalize hW4 : (World.alloc _ _ : World) = w6
          have hb6 : Below wr.heap.size wr w6 := by rw [← hW4]; exact (Below.refl _ _).alloc (Nat.le_refl _) _
          have HB6 := Aside0.mk hb6
          obtain ⟨gi, hgi⟩ : ∃ gi, gi = wr.heap.size := ⟨_, rfl⟩
          have hc6 : Kd.C (Kd.int .i64) w6 (some ⟨gi, 0, none⟩) 1 [(i : Int)] := by rw [← hW4, hgi]; exact C_one wr i
          rw [← hgi]
          clear hW4 hgi
          refine (HON.out gO garc gl godd gon lg (lg - 1) (by have := HG.out; have := HN.out; omega) i hiM (by have := HG.out; omega) _ w6 hc6 (HI3.out.below hb6)).mono ?_
          intro e w7 hp7
          obtain ⟨A5, n5, c5, rfl, HB7, HP5⟩ := srch_shape hp7
          clear hp7 hc6 hb6
          obtain ⟨r, hr⟩ : ∃ r, srchT N ms (lg % 2 == 1) (lg - 1) [(i : Int)] = r := ⟨_, rfl⟩
          have hs3 := HS1.out
          have hp3 := HP5.out
          rw [hr] at hs3 hp3
          have HBI5 := Aside0.mk (HBI.out.trans ((HB6.out.trans (HB7.out.mono HB6.out.size)).mono HBI.out.size))
          clear HS1 HP5 hr
          cases r with
          | none =>
            have HS4 := Aside0.mk hs3
            have e0 : A5.isNone = true := by rw [hp3.1]; rfl
            clear hs3 hp3
            go_wp2_with (fail)
            go_roundw
            case rel => exact ⟨i + 1, by omega, vI (by have := HN.out; omega), HBI5, HS4⟩
            case measure => exact mstepA hiM (by have := HN.out; omega)
          | some l =>
            have HS4 := Aside0.mk hs3
            have e0 : A5.isNone = false := by obtain ⟨_, _, _, ad5, e, _⟩ := hp3; rw [e]; rfl
            have HC5 := Aside0.mk hp3
            clear hs3 hp3
            go_wp2_with (fail)
            go_ret2
            obtain ⟨hl1, hl2, rfl, ad5, rfl, hc5⟩ := HC5.out
            refine ⟨_, _, _, l, rfl, hc5, ?_, hl2, HB4.out.trans ((HB5.out.trans (HBI5.out.mono HB5.out.size)).mono HB4.out.size)⟩
            have hf := HF.out
            rw [HST.out, HS4.out] at hf
            unfold cycF
            rw [hf]
        · have d2 : decide ((i : Int) < (N : Int)) = false := decide_eq_false (by omega)
          have d2n : (i < N) = False := eq_false hiM
          have hl3 := HI3.out.l
          have hs := HSI.out
          rw [List.drop_eq_nil_of_le (by rw [List.length_range]; omega), List.findSome?_nil] at hs
          have hst := HST.out
          rw [hs] at hst
          have HF2 := Aside0.mk (HF.out.trans hst)
          clear hs hst HSI HST
          go_wp2_with (fail)
          generalize hW6 : (World.alloc _ _ : World) = w6
          have hb6 : Below wr.heap.size wr w6 := by rw [← hW6]; exact (Below.refl _ _).alloc (Nat.le_refl _) _
          have hc6 : w6.cell? ⟨wr.heap.size, 0, none⟩ = some (.int .i64 ((lg + 1 : Nat) : Int)) := by
            rw [← hW6]
            refine (World.cell?_alloc_at _ _ _ _ rfl).trans ?_
            rw [Int.natCast_add]; rfl
          refine ⟨⟨lg + 1, wr.heap.size, by omega, by have := HG.out; omega, rfl, ⟨hc6⟩, ⟨HB5.out.trans ((HBI.out.trans (hb6.mono HBI.out.size)).mono HB5.out.size)⟩, HF2⟩, ?_⟩
          show N + 3 - longAt (.pointer (some ⟨wr.heap.size, 0, none⟩)) w6 < N + 3 - longAt (.pointer (some ⟨gl, 0, none⟩)) _
          have q1 : longAt (.pointer (some ⟨wr.heap.size, 0, none⟩)) w6 = lg + 1 := by unfold longAt; simp only [hc6]; exact Int.toNat_natCast _
          have q2 := HL.out
          unfold longAt at q1 ⊢
          rw [q1]
          simp only [q2]
          show _ < N + 3 - ((lg : Int)).toNat
          have := HG.out
          omega
    · have d1 : decide ((lg : Int) ≤ (N : Int)) = false := decide_eq_false (by omega)
      have d1n : (lg ≤ N) = False := eq_false hlM
      have hf := HF.out
      rw [List.drop_eq_nil_of_le (by rw [List.length_range]; omega), List.findSome?_nil] at hf
      have HF2 := Aside0.mk (show cycF N ms = ([], 10) by unfold cycF; rw [hf])
      clear HF hf hodd hlg
      go_wp2_with (fail)
      go_ret2
      exact ⟨_, _, _, [], rfl, Kd.C_nil _ _, HF2.out.symm, by simp, HB4.out.trans (HBW.out.mono HB4.out.size)⟩
end Go.Proofs.Ytagmadfllfcloaa.PC
end
section
set_option linter.unusedVariables false
set_option linter.unusedSimpArgs false
/- shave's listed and Is: the walks. -/
namespace Go.Proofs.Ytagmadfllfcloaa.PC
open Go.RowKit Go.Proofs.YtagmadfllfcloaaW.PrintWords Go.Proofs.YtagmadfllfcloaaW.PrintLast Go.Proofs.YtagmadfllfcloaaW.PrintMore
set_option linter.unusedVariables false
set_option linter.unusedSimpArgs false
/-- A list's members are a set's. -/
def ListIs (n s : Nat) (l : List Int) : Prop := s < 2 ^ n ∧ (∀ x ∈ l, 0 ≤ x ∧ x < (n : Int)) ∧ ∀ p, p < n → (s.testBit p = true ↔ (p : Int) ∈ l)
end Go.Proofs.Ytagmadfllfcloaa.PC
end
section
set_option linter.unusedVariables false
set_option linter.unusedSimpArgs false
/- shave.Sentences: the walk. -/
namespace Go.Proofs.Ytagmadfllfcloaa.PC
open Go.RowKit Go.Proofs.YtagmadfllfcloaaW.PrintWords Go.Proofs.YtagmadfllfcloaaW.PrintLast Go.Proofs.YtagmadfllfcloaaW.PrintMore
set_option linter.unusedVariables false
set_option linter.unusedSimpArgs false
/-- The sentences of a town, as lists of people. -/
def sentMs (n : Int) (l : List S41) : List (List Nat) := (List.range n.toNat).map fun i => memN ((townO l).getD i 0)
def sentOk (ms : List (List Nat)) : Bool := ms.all (fun m => decide ((combS m).length ≤ 40))
def sentF (n : Int) (l : List S41) : List ByteArray × Int :=
  if townE n l ≠ 0 then ([], townE n l) else if 10 < n then ([], 8) else if sentOk (sentMs n l) = true then ((sentMs n l).map combB, 0) else ([], 8)
theorem rune_enc (x : Nat) (hx : x < 12) : Utf8.encode (97 + (x : Int)) = ⟨#[UInt8.ofNat (97 + x)]⟩ := (show ∀ x : Nat, x < 12 → (Utf8.encode (97 + (x : Int))) = (⟨#[UInt8.ofNat (97 + x)]⟩ : ByteArray) by decide) x hx
theorem comb_last (y : Nat) : (⟨#[33]⟩ ++ ⟨#[UInt8.ofNat (97 + y)]⟩ : ByteArray) = combB [y] := by
  apply ByteArray.ext
  simp [combB, combS]
theorem comb_join (y : Nat) (r : List Nat) (hr : r ≠ []) : Lib.join (([⟨#[40]⟩, ⟨#[33]⟩ ++ ⟨#[UInt8.ofNat (97 + y)]⟩, ⟨#[38]⟩, combB r, ⟨#[41]⟩] : List ByteArray).map (·.data.toList)) (ByteArray.mk #[]).data.toList = combS (y :: r) := by
  rcases r with _ | ⟨z, r⟩
  · exact absurd rfl hr
  · simp [Lib.join, combB, combS]
theorem comb_len : ∀ m : List Nat, (combS m).length ≤ 5 * m.length + 1
  | [] => by simp [combS]
  | [x] => by simp [combS]
  | x :: y :: r => by have := comb_len (y :: r); simp only [combS, List.length_cons, List.length_append, List.length_nil] at this ⊢; omega
theorem alloc1_new (w : World) (X : Obj) : (w.alloc X).heap[w.heap.size]? = some X := by
  show (w.heap.push X)[w.heap.size]? = some X
  exact Array.getElem?_push_size
theorem townE_zero {n : Int} {l : List S41} (h : townE n l = 0) : 1 ≤ n ∧ n ≤ 12 ∧ l.all (inT n) = true := by
  unfold townE at h
  by_cases c1 : n < 1 ∨ 12 < n
  · rw [if_pos c1] at h; omega
  by_cases c2 : 80 < l.length
  · rw [if_neg c1, if_pos c2] at h; omega
  by_cases c3 : l.all (inT n) = true
  · exact ⟨by omega, by omega, c3⟩
  · rw [if_neg c1, if_neg c2, if_neg c3] at h; omega
set_option maxHeartbeats 8000000 in
set_option maxRecDepth 100000 in
theorem sentences_walk (n : Int) (A1 : Option Addr) (c1 : Nat) (l1 : List S41) (w : World) (hr1 : Kd.C k41 w A1 l1.length l1) :
    Calls Try.prog 6 #[.int .i64 n, .slice A1 l1.length c1] w fun e w' => ∃ v0_ : Value, e = .returned (.tuple #[v0_, .int .i64 (sentF n l1).2]) ∧ Kd.R Kd.string 9 w' w.heap.size (fun _ => True) v0_ (sentF n l1).1 ∧ Below w.heap.size w w' := by
  have HOF := Lib.hid (shave_of n A1 c1 l1 w hr1)
  clear hr1
  obtain ⟨N, hN⟩ : ∃ N, l1.length = N := ⟨_, rfl⟩
  rw [hN] at HOF ⊢
  clear hN
  go_enter Try.func6, Try.ntmps6
  go_wp2_with (fail)
  refine HOF.out.mono ?_; rintro e wa ⟨⟨T, E, rfl, hE, n', o', ho', rfl, hP⟩, hb⟩
  obtain ⟨o0, o1, o2, o3, o4, o5, o6, o7, o8, o9, o10, o11, rfl⟩ := len12 ho'
  rw [show townV n' [o0, o1, o2, o3, o4, o5, o6, o7, o8, o9, o10, o11] = .agg #[.int .i64 n', .int .i64 (o0 : Int), .int .i64 (o1 : Int), .int .i64 (o2 : Int), .int .i64 (o3 : Int), .int .i64 (o4 : Int), .int .i64 (o5 : Int), .int .i64 (o6 : Int), .int .i64 (o7 : Int), .int .i64 (o8 : Int), .int .i64 (o9 : Int), .int .i64 (o10 : Int), .int .i64 (o11 : Int)] from rfl]
  have HB := Aside0.mk hb
  have HP := Aside0.mk hP
  have HE := Aside0.mk hE
  clear hb hP hE ho'
  by_cases cE : E = 0
  · subst cE
    obtain ⟨rfl, hto⟩ := HP.out rfl
    have HZ0 := Aside0.mk HE.out.symm
    clear HP HE
    by_cases cn : 10 < n'
    · have hF : sentF n' l1 = ([], 8) := by unfold sentF; rw [if_neg (fun h => h HZ0.out), if_pos cn]
      have HF := Aside0.mk hF
      have d1 : decide (10 < n') = true := decide_eq_true cn
      clear hF
      go_wp2
      go_ret2
      exact ⟨_, by rw [HF.out]; rfl, by rw [HF.out]; exact Kd.R_nil _ _ _ _ _, HB.out.alloc HB.out.size _⟩
    have d1 : decide (10 < n') = false := decide_eq_false cn
    have hF : sentF n' l1 = if sentOk (sentMs n' l1) = true then ((sentMs n' l1).map combB, 0) else ([], 8) := by unfold sentF; rw [if_neg (fun h => h HZ0.out), if_neg cn]
    have h1n : 1 ≤ n' ∧ n' ≤ 12 ∧ l1.all (inT n') = true := townE_zero HZ0.out
    obtain ⟨M, rfl⟩ := Int.eq_ofNat_of_zero_le (show 0 ≤ n' by omega)
    have HF := Aside0.mk hF
    have HM := Aside0.mk (show 1 ≤ M ∧ M ≤ 10 by omega)
    have HLT := Lib.hid (fun j => townO_lt l1 (M : Int) h1n.2.1 h1n.2.2 j)
    clear hF h1n cn
    go_wp2_with (fail)
    generalize hW : (World.alloc _ _ : World) = w1
    obtain ⟨gt, hgt⟩ : ∃ gt, gt = wa.heap.size := ⟨_, rfl⟩
    have ht : TownAt w1 gt (M : Int) [o0, o1, o2, o3, o4, o5, o6, o7, o8, o9, o10, o11] := by rw [← hW, hgt]; exact alloc1_new wa _
    have hb1 : Below w.heap.size w w1 := by rw [← hW]; exact HB.out.alloc HB.out.size _
    rw [hto] at ht
    rw [← hgt]
    have HT := Aside0.mk ht
    have HB1 := Aside0.mk hb1
    clear ht hb1 hW HB hto hgt
    go_loopw [8, 28] (fun v8 v28 wr => ∃ i : Nat, i ≤ M ∧ v28 = .int .i64 (i : Int) ∧ Aside0 (sentOk ((sentMs M l1).take i) = true) ∧ Aside0 (TownAt wr gt (M : Int) (townO l1)) ∧ Aside0 (Kd.R Kd.string 9 wr w.heap.size (fun k => k ≠ gt) v8 (((sentMs M l1).take i).map combB)) ∧ Aside0 (Below w.heap.size w wr)) (fun _ v28 _ => M - (intOf v28).toNat)
    case atStart => exact ⟨0, by omega, rfl, ⟨rfl⟩, HT, ⟨Kd.R_nil _ _ _ _ _⟩, HB1⟩
    case round =>
      clear HT HB1
      obtain ⟨i, hi, rfl, HK, HT, HO, HB⟩ := hrel
      by_cases hiN : i < M
      · have d4 : decide ((i : Int) < (M : Int)) = true := decide_eq_true (by omega)
        have d4n : (i < M) = True := eq_true hiN
        have hA := HT.out.at i (by rw [townO_len]; have := HM.out; omega)
        obtain ⟨x, hx⟩ : ∃ x, (townO l1).getD i 0 = x := ⟨_, rfl⟩
        rw [hx] at hA
        have hlt : x < 4096 := by rw [← hx]; exact HLT.out i
        have hb12 : ((i : Int) < 12) = True := eq_true (by have := HM.out; omega)
        have hb12n : (i < 12) = True := eq_true (by have := HM.out; omega)
        have hTK : (sentMs M l1).take (i + 1) = (sentMs M l1).take i ++ [memN x] := by
          rw [List.take_succ_eq_append_getElem (by simp [sentMs]; omega)]
          simp only [sentMs, List.getElem_map, List.getElem_range, hx]
        have HTK := Aside0.mk hTK
        have HMC := Lib.hid (members_calls x hlt)
        have HMI := Aside0.mk (show ∀ y ∈ memN x, y < 12 from fun y hy => memN_lt hy)
        have HML := Aside0.mk (show (memN x).length ≤ 12 from by have := List.length_filter_le (fun i => x.testBit i) (List.range 12); simpa [memN] using this)
        unfold memI at HMC
        generalize memN x = m at HTK HMC HMI HML
        clear hTK hx hlt
        go_wp2_with (fail)
        refine (HMC.out _).mono ?_; rintro e wb ⟨v10, rfl, hr, hb⟩
        obtain ⟨A, c, rfl, hl, hc⟩ := Kd.R_reads hr
        rw [List.length_map] at hc hl ⊢
        have HC := Aside0.mk hc
        have HT2 := Aside0.mk (HT.out.below hb)
        have HO2 := Aside0.mk (Kd.R_below HO.out hb)
        have HB2 := Aside0.mk (HB.out.trans (hb.mono HB.out.size))
        clear hr hl hc hb hA HT HO HB
        obtain ⟨L, hL⟩ : ∃ L, m.length = L := ⟨_, rfl⟩
        have HL := Aside0.mk hL
        rw [hL] at HC HML ⊢
        clear hL
        obtain ⟨q, hq⟩ : ∃ q, wrap64 ((L : Int) - 1) = q := ⟨_, rfl⟩
        have hq' : IntKind.i64.wrap ((L : Int) - 1) = q := (i64_w _).trans hq
        have HQ := Aside0.mk (show q = (L : Int) - 1 by rw [← hq]; have := HML.out; unfold wrap64; omega)
        go_wp2_with (fail)
        go_loopw [11, 12] (fun v11 v12 wr => ∃ j : Nat, j ≤ L ∧ v12 = .int .i64 ((j : Int) - 1) ∧ v11 = .string (combB (m.drop j)) ∧ Aside0 (Kd.C (Kd.int .i64) wr A L (m.map fun x : Nat => (x : Int))) ∧ Aside0 (TownAt wr gt (M : Int) (townO l1)) ∧ Aside0 (Kd.R Kd.string 9 wr w.heap.size (fun k => k ≠ gt) u8 (((sentMs M l1).take i).map combB)) ∧ Aside0 (Below w.heap.size w wr)) (fun _ v12 _ => (intOf v12 + 1).toNat)
        case atStart => exact ⟨L, by omega, congrArg (Value.int .i64) HQ.out, by rw [List.drop_of_length_le (by have := HL.out; omega)]; rfl, HC, HT2, HO2, HB2⟩
        case round =>
          clear HC HT2 HO2 HB2
          obtain ⟨j, hj, rfl, rfl, HC, HT, HO, HB⟩ := hrel
          rcases j with _ | k
          · have h0 : combB (m.drop 0) = combB m := by rw [List.drop_zero]
            rw [h0]
            have hm1 : (((0 : Nat) : Int) - 1) = -1 := by omega
            rw [hm1]
            have HSZ := Aside0.mk (combB_size m)
            by_cases h40 : (combS m).length ≤ 40
            · have e1 : decide ((40 : Int) < ((combB m).size : Int)) = false := decide_eq_false (by rw [combB_size]; omega)
              have e2 : decide ((40 : Nat) < (combB m).size) = false := decide_eq_false (by rw [combB_size]; omega)
              have e3 : (40 < (combB m).size) = False := eq_false (by rw [combB_size]; omega)
              have HNX := Aside0.mk (show ((sentMs M l1).take (i + 1)).map combB = ((sentMs M l1).take i).map combB ++ [combB m] by rw [HTK.out, List.map_append]; rfl)
              have HKX := Aside0.mk (show sentOk ((sentMs M l1).take (i + 1)) = true by have h := HK.out; unfold sentOk at h ⊢; rw [HTK.out, List.all_append, h]; simpa using h40)
              have HIL := Aside0.mk (show (((sentMs M l1).take i).map combB).length ≤ 10 by rw [List.length_map]; have h := List.length_take_le i (sentMs M l1); have := HM.out; omega)
              clear h40
              generalize combB m = s at e1 e2 e3 HNX HSZ
              go_wp2_with (first | ((with_reducible refine gate_builtin (b := .append) (xs := #[.tmp 64, .tmp 66]) rfl ?_); at_builtin; refine Kd.R_append Kd.string (w0 := w) w.heap.size rfl (.tmp 64) (.tmp 66) 25 9 (.string ⟨#[]⟩) 16 rfl Try.underlying25 info9 rfl (by decide) (by omega) u8 (((sentMs M l1).take i).map combB) s [.string s] (fun k => k ≠ gt) (fun _ => False) rfl rfl ?aP (fun _ hk => hk.elim) ?aF ?aO ?aB ?aS ?aL ?_; (case aP => exact rfl); (case aF => exact (fun k hk => by have := HT.out.lt; omega)); (case aO => exact (by (with_reducible repeat (first | apply Kd.R_alloc | apply Kd.R_drewN | apply Kd.R_drew)); exact HO.out)); (case aB => exact HB.out); (case aS => exact HB.out.size); (case aL => have := HIL.out; omega); intro v1 w9 ho hb hg hat; rw [← HNX.out] at ho; have HO5 := Aside0.mk ho; have HB5 := Aside0.mk hb; have HT5 := Aside0.mk (show TownAt w9 gt (M : Int) (townO l1) from (hg.block gt HT.out.lt (fun h => (HO.out.1 gt h.symm) rfl)).trans HT.out); clear HB HO HT; clear ho hb hg hat))
              go_roundw
              case rel => exact ⟨i + 1, by omega, vI (by have := HM.out; omega), HKX, HT5, HO5, HB5⟩
              case measure => exact mstepA hiN (by have := HM.out; omega)
            · have e1 : decide ((40 : Int) < ((combB m).size : Int)) = true := decide_eq_true (by rw [combB_size]; omega)
              have e2 : decide ((40 : Nat) < (combB m).size) = true := decide_eq_true (by rw [combB_size]; omega)
              have e3 : (40 < (combB m).size) = True := eq_true (by rw [combB_size]; omega)
              have hF : sentF (M : Int) l1 = ([], 8) := by
                rw [HF.out, if_neg]
                intro h
                unfold sentOk at h
                rw [List.all_eq_true] at h
                have h2 := h m (List.mem_of_mem_take (i := i + 1) (by rw [HTK.out]; simp))
                exact h40 (of_decide_eq_true h2)
              have HF2 := Aside0.mk hF
              clear hF h40
              generalize combB m = s at e1 e2 e3 HSZ
              go_wp2
              go_ret2
              exact ⟨_, by rw [HF2.out]; rfl, by rw [HF2.out]; exact Kd.R_nil _ _ _ _ _, HB.out⟩
          · have hkL : k < m.length := by have := HL.out; omega
            have HKL := Aside0.mk hkL
            have hsub : (((k + 1 : Nat) : Int) - 1) = (k : Int) := by omega
            rw [hsub]
            obtain ⟨ad, e, hcell⟩ := at_scalar HC.out k (by have := HL.out; omega) (by rw [List.length_map]; exact hkL)
            subst e
            rw [List.getElem_map] at hcell
            obtain ⟨y, hy⟩ : ∃ y, m[k] = y := ⟨_, rfl⟩
            rw [hy] at hcell
            have hy12 : y < 12 := by rw [← hy]; exact HMI.out _ (List.getElem_mem _)
            have HD := Aside0.mk (show m.drop k = y :: m.drop (k + 1) by rw [← hy]; exact List.drop_eq_getElem_cons hkL)
            have e3 : Utf8.encode (wrap32 (wrap64 (97 + (y : Int)))) = ⟨#[UInt8.ofNat (97 + y)]⟩ := by
              rw [show wrap64 (97 + (y : Int)) = 97 + (y : Int) by unfold wrap64; omega, show wrap32 (97 + (y : Int)) = 97 + (y : Int) by unfold wrap32; omega]
              exact rune_enc y hy12
            have e4 : decide ((k : Int) < (L : Int)) = true := decide_eq_true (by have := HL.out; omega)
            have e5 : (k < L) = True := eq_true (by have := HL.out; omega)
            obtain ⟨c2, hc2⟩ : ∃ c2, UInt8.ofNat (97 + y) = c2 := ⟨_, rfl⟩
            have HC2 := Aside0.mk hc2
            rw [hc2] at e3
            clear hkL hsub hy hy12 hc2
            by_cases hk : k + 1 = L
            · have e6 : ((k : Int) == q) = true := beq_iff_eq.2 (by rw [HQ.out]; omega)
              have e6n : ((k : Int) = q) = True := eq_true (by rw [HQ.out]; omega)
              go_wp2_with (fail)
              refine ⟨⟨k, by omega, congrArg (Value.int .i64) (wD (by have := HML.out; omega)), congrArg Value.string ?_, HC, HT, HO, HB⟩, ?_⟩
              · rw [HD.out, List.drop_of_length_le (by have := HL.out; omega), ← HC2.out]
                exact comb_last y
              · rw [wD (by have := HML.out; omega)]
                simp only [intOf]
                omega
            · have e7 : ((k : Int) == q) = false := beq_eq_false_iff_ne.2 (by rw [HQ.out]; omega)
              have e8 : ((k : Int) = q) = False := eq_false (by rw [HQ.out]; omega)
              go_wp2_with (fail)
              have hr : m.drop (k + 1) ≠ [] := by intro h; have h2 := congrArg List.length h; rw [List.length_drop] at h2; have := HL.out; simp at h2; omega
              have hrl : (m.drop (k + 1)).length ≤ 12 := by rw [List.length_drop]; have := HL.out; have := HML.out; omega
              have hj := comb_join y (m.drop (k + 1)) hr
              rw [HC2.out, ← HD.out] at hj
              refine (sh_strings_Join wr.heap.size 0 5 [⟨#[40]⟩, ⟨#[33]⟩ ++ ⟨#[c2]⟩, ⟨#[38]⟩, combB (m.drop (k + 1)), ⟨#[41]⟩] ⟨#[]⟩ _ ?h1 ?h2 (by show (5 : Nat) ≤ _; omega) (by show (5 : Nat) ≤ _; omega) ?h3).mono ?_
              case h1 =>
                intro j x h
                rcases j with _ | _ | _ | _ | _ | j <;> simp at h <;> subst h <;> simp
              case h2 => simp
              case h3 => rw [hj]; exact Nat.le_trans (comb_len _) (by rw [HD.out, List.length_cons]; omega)
              rw [hj]
              rintro e wc ⟨rfl, hb⟩
              have hle : wr.heap.size ≤ (wr.alloc (.cells #[.string ⟨#[40]⟩, .string (⟨#[33]⟩ ++ ⟨#[c2]⟩), .string ⟨#[38]⟩, .string (combB (m.drop (k + 1))), .string ⟨#[41]⟩] 9)).heap.size := by simp
              have hbw : Below wr.heap.size wr wc := ((Below.refl _ wr).alloc (Nat.le_refl _) _).trans (hb.mono hle)
              have HC3 := Aside0.mk (Kd.C_below HC.out hbw)
              have HT3 := Aside0.mk (HT.out.below hbw)
              have HO3 := Aside0.mk (Kd.R_below HO.out hbw)
              have HB3 := Aside0.mk (HB.out.trans (hbw.mono HB.out.size))
              clear hb hbw hle hj hr hrl HC HT HO HB
              go_wp2_with (fail)
              refine ⟨⟨k, by omega, congrArg (Value.int .i64) (wD (by have := HML.out; omega)), rfl, HC3, HT3, HO3, HB3⟩, ?_⟩
              rw [wD (by have := HML.out; omega)]
              simp only [intOf]
              omega
      · have d4 : decide ((i : Int) < (M : Int)) = false := decide_eq_false (by omega)
        have d4n : (i < M) = False := eq_false hiN
        have hml : (sentMs M l1).length = M := by simp [sentMs]
        have htk : (sentMs M l1).take i = sentMs M l1 := List.take_of_length_le (by omega)
        rw [htk] at HO HK
        have HF2 := Aside0.mk (show sentF (M : Int) l1 = ((sentMs M l1).map combB, 0) by rw [HF.out, if_pos HK.out])
        clear hml htk
        go_wp2
        go_ret2
        exact ⟨_, by rw [HF2.out]; rfl, by rw [HF2.out]; exact Kd.R_mono HO.out (fun _ _ => trivial), HB.out⟩
  · have d1 : (E == 0) = false := beq_eq_false_iff_ne.2 cE
    have d1n : (E = 0) = False := eq_false cE
    have hF : sentF n l1 = ([], E) := by unfold sentF; rw [← HE.out, if_pos cE]
    have HF := Aside0.mk hF
    clear hF
    go_wp2
    go_ret2
    exact ⟨_, by rw [HF.out]; rfl, by rw [HF.out]; exact Kd.R_nil _ _ _ _ _, HB.out.alloc HB.out.size _⟩
end Go.Proofs.Ytagmadfllfcloaa.PC
end
