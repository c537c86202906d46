/- Parts of the proof of LawTopCycles, one behind the other: PCx0 HShelf HRead HOf HVal HTown HTest HAll HKer HHas PCf14 LMem. -/
import Derived.Test.YtagmadfllfcloaaProg
import Derived.Below
import Derived.Deep.Draws
import Derived.Deep.AppendLies
import Derived.Maps.AppendAt
import Derived.OwnWalk
import Derived.Laws.BytesArg
import Derived.Laws.MakeOwn
import Derived.Laws.OwnMore
import Derived.Deep.OwnRows
import Derived.Tactics
import Derived.Lib.ConvBytes
import Derived.Laws.Slices
import Derived.WalkKit
import Derived.KernelRfl
import Derived.RowKit3
import Derived.Deep.LoopGhost
import Derived.Deep.QuietTactic
import Derived.BigQuiet
import Derived.WideLaws
import Derived.Deep.DeepCutAuto
import Derived.Deep.CutBlock
import Derived.Deep.RegionHeld3
import Derived.Laws.Rows
import Derived.Lib.AppendStr
import Derived.ArgAppend
import Derived.Laws.IdiomCopy
import Derived.OrdersHeld
import Derived.Laws.BitsLemmas
import Derived.RowKit
import Derived.Shelf.Strings.Builder1
import Derived.Shelf.Strings.Builder2
import Derived.Shelf.Strings.OnBuilder
import Derived.Shelf.Strings.BuilderF
import Derived.Shelf.Strings.Search1
import Derived.Shelf.Strings.Search2
import Derived.Shelf.Strings.Search3
import Derived.Shelf.LaysM
import Derived.Shelf.Strings.Shaped
import Derived.Shelf.Strings.Prefix
import Derived.Shelf.Bits.Mul64
import Derived.Shelf.Strings.Repeat
import Derived.Lib.Hide
import Derived.Handy
import Derived.StillTailTactics
import Derived.Test.YtagmadfllfcloaaJTopCycles2
section
set_option linter.unusedVariables false
set_option linter.unusedSimpArgs false
namespace Go.Proofs.Ytagmadfllfcloaa.PC
open Go.RowKit Go.Proofs.YtagmadfllfcloaaW.PrintWords Go.Proofs.YtagmadfllfcloaaW.PrintLast Go.Proofs.YtagmadfllfcloaaW.PrintMore
attribute [local go_sem] max2_int min2_int max_two min_two max_three min_three max_four min_four   -- for this text's walks alone
set_option linter.unusedVariables false
set_option linter.unusedSimpArgs false
def errW : Option Int → Value
  | none => .nilIface
  | some c => .iface 0 (.int .i64 c)
theorem errW_none : errW none = .nilIface := rfl
theorem errW_some (c : Int) : errW (some c) = .iface 0 (.int .i64 c) := rfl
theorem info3 : (Try.prog.info? 3).map (fun i => (i.zero, i.size, i.bytes)) = some (some (.int .i64 0), 1, 8) := by kernel_rfl
theorem info9 : (Try.prog.info? 9).map (fun i => (i.zero, i.size, i.bytes)) = some (some (.string ⟨#[]⟩), 1, 16) := by kernel_rfl
/-! #### struct type 41 -/
structure S41 where
  f0 : Int
  f1 : Int
def z41 : S41 := ⟨(0 : Int), (0 : Int)⟩
def k41 : Kd S41 := Kd.iso (Kd.pair (Kd.int .i64) (Kd.int .i64)) (fun x : S41 => (x.f0, x.f1))
theorem k41_open {w : World} {x : S41} {cs : List Value} (h : k41.K w x cs) : cs = [.int .i64 x.f0, .int .i64 x.f1] := by
  obtain ⟨_, _, rfl, rfl, rfl⟩ := h
  exact rfl
theorem k41_mk (w : World) (x : S41)  : k41.K w x [.int .i64 x.f0, .int .i64 x.f1] := ⟨[.int .i64 x.f0], [.int .i64 x.f1], rfl, rfl, rfl⟩
def rd_T41 (xs : List S41) (i : Int) : S41 := xs.getD i.toNat z41
theorem at_T41 {w : World} {A : Option Addr} {n : Nat} {xs : List S41} (h : Kd.C k41 w A n xs) (i : Int) (h0 : 0 ≤ i) (h1 : i < n) : ∃ ad , A = some ad ∧ w.cell? (ad.add (i.toNat * 2)) = some (.int .i64 (rd_T41 xs i).f0) ∧ w.cell? ⟨(ad.add (i.toNat * 2)).block, (ad.add (i.toNat * 2)).off + 1, none⟩ = some (.int .i64 (rd_T41 xs i).f1) := by
  obtain ⟨ad, c, e, _, hK, hc0⟩ := Kd.C_get h z41 i h0 h1
  have hc : ∀ j u, c[j]? = some u → w.cell? (ad.add (i.toNat * 2 + j)) = some u := hc0
  obtain rfl := k41_open hK
  exact ⟨ad, e, hc 0 _ rfl, by rw [← add_field _ _ 1 (by omega)]; exact hc 1 _ rfl⟩
end Go.Proofs.Ytagmadfllfcloaa.PC
end
section
set_option linter.unusedVariables false
set_option linter.unusedSimpArgs false
/- Contracts of the library at this dump (laid by the kit's program). -/
namespace Go.Proofs.Ytagmadfllfcloaa.PC
open Go.Shelf
def sh_lays156_ren : Go.Shelf.Ren := ⟨fun | 156 => 15 | 165 => 28 | 166 => 29 | 169 => 30 | 240 => 42 | 241 => 43 | 276 => 51 | 277 => 52 | n => n, fun | 31 => 25 | 9 => 9 | 3 => 3 | 4 => 4 | 0 => 0 | 20 => 20 | 72 => 72 | 76 => 76 | 70 => 69 | 37 => 70 | 75 => 75 | 127 => 96 | 164 => 106 | 5 => 5 | 80 => 78 | n => n, fun | n => n⟩
theorem sh_lays156 : Go.Proofs.Lays.n156 Try.prog sh_lays156_ren := {
  mixed := by kernel_rfl
  f156 := Try.func15.trans (congrArg some (by kernel_rfl))
  f165 := Try.func28.trans (congrArg some (by kernel_rfl))
  f166 := Try.func29.trans (congrArg some (by kernel_rfl))
  f169 := Try.func30.trans (congrArg some (by kernel_rfl))
  f240 := Try.func42.trans (congrArg some (by kernel_rfl))
  f241 := Try.func43.trans (congrArg some (by kernel_rfl))
  f276 := Try.func51.trans (congrArg some (by kernel_rfl))
  f277 := Try.func52.trans (congrArg some (by kernel_rfl))
  t0 := Try.underlying0
  a0 := Try.isAgg0
  z0 := Try.sizeOf0
  v0 := Try.zeroValue0
  t3 := Try.underlying3
  a3 := Try.isAgg3
  z3 := Try.sizeOf3
  v3 := Try.zeroValue3
  t4 := Try.underlying4
  a4 := Try.isAgg4
  z4 := Try.sizeOf4
  v4 := Try.zeroValue4
  t9 := Try.underlying9
  a9 := Try.isAgg9
  z9 := Try.sizeOf9
  v9 := Try.zeroValue9
  t20 := Try.underlying20
  a20 := Try.isAgg20
  z20 := Try.sizeOf20
  v20 := Try.zeroValue20
  t31 := Try.underlying25
  a31 := Try.isAgg25
  z31 := Try.sizeOf25
  v31 := Try.zeroValue25
  t37 := Try.underlying70
  a37 := Try.isAgg70
  z37 := Try.sizeOf70
  v37 := Try.zeroValue70
  t70 := Try.underlying69
  a70 := Try.isAgg69
  z70 := Try.sizeOf69
  v70 := Try.zeroValue69
  t72 := Try.underlying72
  a72 := Try.isAgg72
  z72 := Try.sizeOf72
  v72 := Try.zeroValue72
  t75 := Try.underlying75
  a75 := Try.isAgg75
  z75 := Try.sizeOf75
  v75 := Try.zeroValue75
  t76 := Try.underlying76
  a76 := Try.isAgg76
  z76 := Try.sizeOf76
  v76 := Try.zeroValue76
  t127 := Try.underlying96
  a127 := Try.isAgg96
  z127 := Try.sizeOf96
  v127 := Try.zeroValue96
  t164 := Try.underlying106
  a164 := Try.isAgg106
  z164 := Try.sizeOf106
  v164 := Try.zeroValue106 }
theorem sh_Builder_Extra_156 : Builder.Extra Try.prog sh_lays156_ren := {
  sizeBuilder := by kernel_rfl
  liesBuilder := by kernel_rfl
  t5 := Try.underlying5
  a5 := Try.isAgg5
  z5 := Try.sizeOf5
  v5 := Try.zeroValue5
  infoByte := by kernel_rfl
  cellsByte := by kernel_rfl
  sizeByte := by kernel_rfl
  neB5 := by decide }
open Go.RowKit in
/-- strings.Join: "Join concatenates the elements of its first argument to create a single string. The separator string sep is placed between elements in the resulting string.": HOWEVER MANY ELEMENTS. Below the heap's end the world is as it was. (LAID: no walk: one application.) -/
theorem sh_strings_Join (bk o c : Nat) (xs : List ByteArray) (sep : ByteArray) (w : World) (hcells : ∀ (j : Nat) x, xs[j]? = some x → w.cell? ⟨bk, o + j, none⟩ = some (.string x)) (hbk : bk < w.heap.size) (hN : xs.length ≤ 140737488355328) (hcap : xs.length ≤ c) (hlen : (Lib.join (xs.map (·.data.toList)) sep.data.toList).length ≤ 140737488355328) :
    Calls Try.prog 15 #[.slice (some ⟨bk, o, none⟩) xs.length c, .string sep] w fun e w' => e = .returned (.string ⟨(Lib.join (xs.map (·.data.toList)) sep.data.toList).toArray⟩) ∧ Below w.heap.size w w' := Any.strings_Join sh_lays156 sh_Builder_Extra_156 bk o c xs sep w hcells hbk hN hcap hlen
def sh_lays144_ren : Go.Shelf.Ren := ⟨fun | 144 => 53 | 143 => 54 | 219 => 55 | 217 => 56 | 225 => 57 | 224 => 58 | 267 => 59 | 266 => 60 | 314 => 61 | n => n, fun | 9 => 9 | 4 => 4 | 3 => 3 | 5 => 5 | 46 => 86 | 146 => 101 | 51 => 100 | n => n, fun | 1 => 0 | n => n⟩
theorem sh_lays144 : Go.Proofs.Lays.n144 Try.prog sh_lays144_ren := {
  mixed := by kernel_rfl
  f143 := Try.func54.trans (congrArg some (by kernel_rfl))
  f144 := Try.func53.trans (congrArg some (by kernel_rfl))
  f217 := Try.func56.trans (congrArg some (by kernel_rfl))
  f219 := Try.func55.trans (congrArg some (by kernel_rfl))
  f224 := Try.func58.trans (congrArg some (by kernel_rfl))
  f225 := Try.func57.trans (congrArg some (by kernel_rfl))
  f266 := Try.func60.trans (congrArg some (by kernel_rfl))
  f267 := Try.func59.trans (congrArg some (by kernel_rfl))
  f314 := Try.func61.trans (congrArg some (by kernel_rfl))
  t3 := Try.underlying3
  a3 := Try.isAgg3
  z3 := Try.sizeOf3
  v3 := Try.zeroValue3
  t4 := Try.underlying4
  a4 := Try.isAgg4
  z4 := Try.sizeOf4
  v4 := Try.zeroValue4
  t5 := Try.underlying5
  a5 := Try.isAgg5
  z5 := Try.sizeOf5
  v5 := Try.zeroValue5
  t9 := Try.underlying9
  a9 := Try.isAgg9
  z9 := Try.sizeOf9
  v9 := Try.zeroValue9
  t46 := Try.underlying86
  a46 := Try.isAgg86
  z46 := Try.sizeOf86
  v46 := Try.zeroValue86
  t51 := Try.underlying100
  a51 := Try.isAgg100
  z51 := Try.sizeOf100
  v51 := Try.zeroValue100
  t146 := Try.underlying101
  a146 := Try.isAgg101
  z146 := Try.sizeOf101
  v146 := Try.zeroValue101
  g1 := by kernel_rfl }
open Go.RowKit Go.Lib in
/-- strings.Contains: "Contains reports whether substr is within s.": AT A substr OF ONE BYTE c: IT RETURNS 'decide (0 ≤ Lib.indexByte s c)'; the world is as it was. (LAID: no walk: one application.) -/
theorem sh_strings_Contains_one (s : ByteArray) (c : UInt8) (w : World) :
    Calls Try.prog 53 #[.string s, .string ⟨#[c]⟩] w fun e w' => e = .returned (.bool (decide (0 ≤ Lib.indexByte s.data.toList c))) ∧ w' = w := Any.strings_Contains_one sh_lays144 s c w
def sh_lays105_ren : Go.Shelf.Ren := ⟨fun | 105 => 20 | 212 => 35 | 99 => 36 | 165 => 28 | 166 => 29 | 170 => 37 | 169 => 30 | 263 => 47 | 264 => 48 | 206 => 49 | 240 => 42 | 241 => 43 | 276 => 51 | 277 => 52 | n => n, fun | 9 => 9 | 3 => 3 | 4 => 4 | 20 => 20 | 0 => 0 | 46 => 86 | 109 => 87 | 5 => 5 | 72 => 72 | 76 => 76 | 51 => 100 | 146 => 101 | 53 => 103 | 148 => 104 | 70 => 69 | 37 => 70 | 75 => 75 | 127 => 96 | 164 => 106 | 80 => 78 | n => n, fun | n => n⟩
theorem sh_lays105 : Go.Proofs.Lays.n105 Try.prog sh_lays105_ren := {
  mixed := by kernel_rfl
  f99 := Try.func36.trans (congrArg some (by kernel_rfl))
  f105 := Try.func20.trans (congrArg some (by kernel_rfl))
  f165 := Try.func28.trans (congrArg some (by kernel_rfl))
  f166 := Try.func29.trans (congrArg some (by kernel_rfl))
  f169 := Try.func30.trans (congrArg some (by kernel_rfl))
  f170 := Try.func37.trans (congrArg some (by kernel_rfl))
  f206 := Try.func49.trans (congrArg some (by kernel_rfl))
  f212 := Try.func35.trans (congrArg some (by kernel_rfl))
  f240 := Try.func42.trans (congrArg some (by kernel_rfl))
  f241 := Try.func43.trans (congrArg some (by kernel_rfl))
  f263 := Try.func47.trans (congrArg some (by kernel_rfl))
  f264 := Try.func48.trans (congrArg some (by kernel_rfl))
  f276 := Try.func51.trans (congrArg some (by kernel_rfl))
  f277 := Try.func52.trans (congrArg some (by kernel_rfl))
  t0 := Try.underlying0
  a0 := Try.isAgg0
  z0 := Try.sizeOf0
  v0 := Try.zeroValue0
  t3 := Try.underlying3
  a3 := Try.isAgg3
  z3 := Try.sizeOf3
  v3 := Try.zeroValue3
  t4 := Try.underlying4
  a4 := Try.isAgg4
  z4 := Try.sizeOf4
  v4 := Try.zeroValue4
  t5 := Try.underlying5
  a5 := Try.isAgg5
  z5 := Try.sizeOf5
  v5 := Try.zeroValue5
  t9 := Try.underlying9
  a9 := Try.isAgg9
  z9 := Try.sizeOf9
  v9 := Try.zeroValue9
  t20 := Try.underlying20
  a20 := Try.isAgg20
  z20 := Try.sizeOf20
  v20 := Try.zeroValue20
  t37 := Try.underlying70
  a37 := Try.isAgg70
  z37 := Try.sizeOf70
  v37 := Try.zeroValue70
  t46 := Try.underlying86
  a46 := Try.isAgg86
  z46 := Try.sizeOf86
  v46 := Try.zeroValue86
  t51 := Try.underlying100
  a51 := Try.isAgg100
  z51 := Try.sizeOf100
  v51 := Try.zeroValue100
  t53 := Try.underlying103
  a53 := Try.isAgg103
  z53 := Try.sizeOf103
  v53 := Try.zeroValue103
  t70 := Try.underlying69
  a70 := Try.isAgg69
  z70 := Try.sizeOf69
  v70 := Try.zeroValue69
  t72 := Try.underlying72
  a72 := Try.isAgg72
  z72 := Try.sizeOf72
  v72 := Try.zeroValue72
  t75 := Try.underlying75
  a75 := Try.isAgg75
  z75 := Try.sizeOf75
  v75 := Try.zeroValue75
  t76 := Try.underlying76
  a76 := Try.isAgg76
  z76 := Try.sizeOf76
  v76 := Try.zeroValue76
  t109 := Try.underlying87
  a109 := Try.isAgg87
  z109 := Try.sizeOf87
  v109 := Try.zeroValue87
  t127 := Try.underlying96
  a127 := Try.isAgg96
  z127 := Try.sizeOf96
  v127 := Try.zeroValue96
  t146 := Try.underlying101
  a146 := Try.isAgg101
  z146 := Try.sizeOf101
  v146 := Try.zeroValue101
  t148 := Try.underlying104
  a148 := Try.isAgg104
  z148 := Try.sizeOf104
  v148 := Try.zeroValue104
  t164 := Try.underlying106
  a164 := Try.isAgg106
  z164 := Try.sizeOf106
  v164 := Try.zeroValue106 }
theorem sh_Builder_Extra_105 : Builder.Extra Try.prog sh_lays105_ren := {
  sizeBuilder := by kernel_rfl
  liesBuilder := by kernel_rfl
  t5 := Try.underlying5
  a5 := Try.isAgg5
  z5 := Try.sizeOf5
  v5 := Try.zeroValue5
  infoByte := by kernel_rfl
  cellsByte := by kernel_rfl
  sizeByte := by kernel_rfl
  neB5 := by decide }
open Go.RowKit Go.Lib in
/-- **strings.Repeat: count ≥ 0, the result within one allocation: count copies of s.** (LAID: no walk: one application.) -/
theorem sh_strings_Repeat (s : ByteArray) (c : Nat) (w : World) (hc : c ≤ 9223372036854775807) (hlen : s.size * c ≤ 140737488355328) :
    Calls Try.prog 20 #[.string s, .int .i64 c] w fun e w' => e = .returned (.string ⟨(Lib.repeatL s.data.toList c).toArray⟩) ∧ Below w.heap.size w w' := Any.strings_Repeat sh_lays105 sh_Builder_Extra_105 s c w hc hlen
end Go.Proofs.Ytagmadfllfcloaa.PC
end
section
set_option linter.unusedVariables false
set_option linter.unusedSimpArgs false
/- truth.read on the sentences of a town: the walk. -/
namespace Go.Proofs.Ytagmadfllfcloaa.PC
open Go.RowKit Go.Proofs.YtagmadfllfcloaaW.PrintWords Go.Proofs.YtagmadfllfcloaaW.PrintLast Go.Proofs.YtagmadfllfcloaaW.PrintMore
set_option linter.unusedVariables false
set_option linter.unusedSimpArgs false
theorem wI {a : Nat} (h : a ≤ 1000000) : wrap64 ((a : Int) + 1) = ((a + 1 : Nat) : Int) := by unfold wrap64; omega
theorem vI {a : Nat} (h : a ≤ 1000000) : Value.int .i64 (wrap64 ((a : Int) + 1)) = Value.int .i64 ((a + 1 : Nat) : Int) := congrArg _ (wI h)
theorem mstepA {m a : Nat} (h : a < m) (hm : m ≤ 1000) : m - (intOf (Value.int .i64 (wrap64 ((a : Int) + 1)))).toNat < m - (intOf (Value.int .i64 (a : Int))).toNat := by
  rw [wI (by omega)]; simp only [intOf]; omega
theorem wD {a : Nat} (h : a ≤ 1000000) : wrap64 ((a : Int) - 1) = (a : Int) - 1 := by unfold wrap64; omega
/-- The sentence of a list of people: none of them. -/
def combS : List Nat → List UInt8
  | [] => [49]
  | [x] => [33, UInt8.ofNat (97 + x)]
  | x :: y :: r => 40 :: 33 :: UInt8.ofNat (97 + x) :: 38 :: (combS (y :: r) ++ [41])
/-- The value of a letter that is denied. -/
def notV (x : Nat) : Value := .iface 112 (.agg #[.iface 110 (.int .i64 (x : Int))])
/-- Its formula, as a value. -/
def combV : List Nat → Value
  | [] => .iface 109 (.int .u8 49)
  | [x] => notV x
  | x :: y :: r => .iface 114 (.agg #[notV x, combV (y :: r), .int .u8 38])
theorem ba_head0 (c : UInt8) (rest : List UInt8) (h) : ({ data := (c :: rest).toArray } : ByteArray)[0]'h = c := rfl
theorem ba_tail (c : UInt8) (rest : List UInt8) (k : Nat) (h : k = rest.length + 1) : ({ data := (c :: rest).toArray } : ByteArray).extract 1 k = { data := rest.toArray } := by
  subst h
  apply ByteArray.ext
  simp
theorem ba_first (c : UInt8) (rest : List UInt8) : ({ data := (c :: rest).toArray } : ByteArray).extract 0 1 = { data := #[c] } := by
  apply ByteArray.ext
  simp
theorem u48 : (48 : UInt8).toNat = 48 := rfl
theorem u49 : (49 : UInt8).toNat = 49 := rfl
theorem u40 : (40 : UInt8).toNat = 40 := rfl
theorem u41 : (41 : UInt8).toNat = 41 := rfl
theorem u33 : (33 : UInt8).toNat = 33 := rfl
theorem u38 : (38 : UInt8).toNat = 38 := rfl
attribute [local go_sem] ba_head0 ba_tail ba_first u48 u49 u40 u41 u33 u38
set_option maxHeartbeats 1000000 in
theorem read_one (rest : List UInt8) (n : Nat) (w : World) :
    Calls Try.prog 46 #[.string ⟨(49 :: rest).toArray⟩, .int .i64 (n : Int)] w fun e w' => e = .returned (.tuple #[.iface 109 (.int .u8 49), .string ⟨rest.toArray⟩]) ∧ ∃ m, w' = w.drewN m := by
  go_enter Try.func46, Try.ntmps46
  go_wp2
  go_quiet (fail)
  go_wp2
  go_ret2
  exact ⟨rfl, _, rfl⟩
theorem letter_facts (x n : Nat) (hx : x < n) (hn : n ≤ 10) : ∃ c : UInt8, c = UInt8.ofNat (97 + x) ∧ (c.toNat : Int) = 97 + (x : Int) := by
  refine ⟨_, rfl, ?_⟩
  rw [UInt8.toNat_ofNat']
  omega
set_option maxHeartbeats 1000000 in
theorem read_letter (x n : Nat) (hx : x < n) (hn : n ≤ 10) (rest : List UInt8) (w : World) :
    Calls Try.prog 46 #[.string ⟨(UInt8.ofNat (97 + x) :: rest).toArray⟩, .int .i64 (n : Int)] w fun e w' => e = .returned (.tuple #[.iface 110 (.int .i64 (x : Int)), .string ⟨rest.toArray⟩]) ∧ ∃ m, w' = w.drewN m := by
  obtain ⟨c, hc, hq⟩ := letter_facts x n hx hn
  rw [← hc]
  have e1 : ((c.toNat : Int) == 48) = false := by rw [hq]; exact beq_eq_false_iff_ne.2 (by omega)
  have e2 : ((c.toNat : Int) == 49) = false := by rw [hq]; exact beq_eq_false_iff_ne.2 (by omega)
  have e3 : decide ((97 : Int) ≤ (c.toNat : Int)) = true := by rw [hq]; exact decide_eq_true (by omega)
  have e4 : IntKind.u8.wrap ((c.toNat : Int) - 97) = (x : Int) := by rw [hq, IntKind.wrap_u8]; omega
  have e6 : wrap64 (x : Int) = (x : Int) := by unfold wrap64; omega
  have e5 : decide ((x : Int) < (n : Int)) = true := decide_eq_true (by omega)
  have e7 : (x < n) = True := eq_true hx
  clear hc hq hx hn
  go_enter Try.func46, Try.ntmps46
  go_wp2
  go_quiet (fail)
  go_wp2
  go_ret2
  exact ⟨rfl, _, rfl⟩
set_option maxHeartbeats 1000000 in
theorem read_not (x n : Nat) (hx : x < n) (hn : n ≤ 10) (rest : List UInt8) (w : World) :
    Calls Try.prog 46 #[.string ⟨(33 :: UInt8.ofNat (97 + x) :: rest).toArray⟩, .int .i64 (n : Int)] w fun e w' => e = .returned (.tuple #[notV x, .string ⟨rest.toArray⟩]) ∧ ∃ m, w' = w.drewN m := by
  have HL := Lib.hid (read_letter x n hx hn rest)
  obtain ⟨c, hc⟩ : ∃ c, UInt8.ofNat (97 + x) = c := ⟨_, rfl⟩
  rw [hc] at HL ⊢
  clear hc hx hn
  go_enter Try.func46, Try.ntmps46
  go_wp2
  go_quiet (fail)
  go_wp2_with (go_at_call 46; refine (HL.out _).mono ?_; rintro e wa ⟨rfl, ⟨m, rfl⟩⟩)
  go_ret2
  exact ⟨rfl, _, rfl⟩
set_option maxHeartbeats 2000000 in
set_option maxRecDepth 100000 in
theorem read_pair (x n : Nat) (hx : x < n) (hn : n ≤ 10) (mid rest : List UInt8) (T : TypeId) (X : Value) (w : World)
    (hm : ∀ w, Calls Try.prog 46 #[.string ⟨(mid ++ 41 :: rest).toArray⟩, .int .i64 (n : Int)] w fun e w' => e = .returned (.tuple #[.iface T X, .string ⟨(41 :: rest).toArray⟩]) ∧ ∃ m, w' = w.drewN m) :
    Calls Try.prog 46 #[.string ⟨(40 :: 33 :: UInt8.ofNat (97 + x) :: 38 :: (mid ++ 41 :: rest)).toArray⟩, .int .i64 (n : Int)] w fun e w' => e = .returned (.tuple #[.iface 114 (.agg #[notV x, .iface T X, .int .u8 38]), .string ⟨rest.toArray⟩]) ∧ ∃ m, w' = w.drewN m := by
  have HL := Lib.hid (read_not x n hx hn (38 :: (mid ++ 41 :: rest)))
  have HM := Lib.hid hm
  obtain ⟨c, hc⟩ : ∃ c, UInt8.ofNat (97 + x) = c := ⟨_, rfl⟩
  obtain ⟨l, hl⟩ : ∃ l, mid ++ 41 :: rest = l := ⟨_, rfl⟩
  rw [hc, hl] at HL
  rw [hl] at HM
  rw [hc, hl]
  unfold notV at HL ⊢
  clear hc hl hx hn hm
  go_enter Try.func46, Try.ntmps46
  go_wp2
  go_quiet (fail)
  go_wp2_with (fail)
  refine (HL.out _).mono ?_; rintro e wa ⟨rfl, ⟨m, rfl⟩⟩
  go_wp2_with (fail)
  have hcon : decide (0 ≤ Lib.indexByte (ByteArray.mk #[38, 124, 61]).data.toList 38) = true := by decide
  refine (sh_strings_Contains_one ⟨#[38, 124, 61]⟩ 38 _).mono ?_; rintro e wa ⟨rfl, rfl⟩; rw [hcon]
  go_wp2_with (fail)
  refine (HM.out _).mono ?_; rintro e wa ⟨rfl, ⟨m2, rfl⟩⟩
  go_wp2_with (fail)
  go_quiet (fail)
  go_wp2
  go_ret2
  exact ⟨rfl, _, World.drewN_drewN ..⟩
/-- It is an interface value that is not nil. -/
theorem combV_if : ∀ m, ∃ T X, combV m = .iface T X
  | [] => ⟨_, _, rfl⟩
  | [_] => ⟨_, _, rfl⟩
  | _ :: _ :: _ => ⟨_, _, rfl⟩
theorem read_comb (n : Nat) (hn : n ≤ 10) : ∀ (m : List Nat) (hm : ∀ x ∈ m, x < n) (rest : List UInt8) (w : World),
    Calls Try.prog 46 #[.string ⟨(combS m ++ rest).toArray⟩, .int .i64 (n : Int)] w fun e w' => e = .returned (.tuple #[combV m, .string ⟨rest.toArray⟩]) ∧ ∃ m, w' = w.drewN m
  | [], _, rest, w => read_one rest n w
  | [x], hm, rest, w => read_not x n (hm x (by simp)) hn rest w
  | x :: y :: r, hm, rest, w => by
    obtain ⟨T, X, hV⟩ := combV_if (y :: r)
    have ih := read_comb n hn (y :: r) (fun z hz => hm z (List.mem_cons_of_mem _ hz)) (41 :: rest)
    rw [hV] at ih
    have h := read_pair x n (hm x (by simp)) hn (combS (y :: r)) rest T X w ih
    have e : combS (x :: y :: r) ++ rest = 40 :: 33 :: UInt8.ofNat (97 + x) :: 38 :: (combS (y :: r) ++ 41 :: rest) := by
      simp only [combS, List.cons_append, List.append_assoc, List.nil_append]
    rw [e]
    show Calls _ _ _ _ fun e w' => e = .returned (.tuple #[.iface 114 (.agg #[notV x, combV (y :: r), .int .u8 38]), .string ⟨rest.toArray⟩]) ∧ ∃ m, w' = w.drewN m
    rw [hV]
    exact h
end Go.Proofs.Ytagmadfllfcloaa.PC
end
section
set_option linter.unusedVariables false
set_option linter.unusedSimpArgs false
/- truth.parse and truth.of on the sentences of a town: the walks. -/
namespace Go.Proofs.Ytagmadfllfcloaa.PC
open Go.RowKit Go.Proofs.YtagmadfllfcloaaW.PrintWords Go.Proofs.YtagmadfllfcloaaW.PrintLast Go.Proofs.YtagmadfllfcloaaW.PrintMore
set_option linter.unusedVariables false
set_option linter.unusedSimpArgs false
theorem combV_one (m : List Nat) : (combV m).oneCell' = true := by
  obtain ⟨T, X, h⟩ := combV_if m
  rw [h]
  rfl
theorem info83 : (Try.prog.info? 83).map (fun i => (i.zero, i.size, i.bytes)) = some (some .nilIface, 1, 16) := by kernel_rfl
/-- A formula, as a kind. -/
def kF : Kd (List Nat) := Kd.scalar combV combV_one
/-- A sentence, as a string. -/
def combB (m : List Nat) : ByteArray := ⟨(combS m).toArray⟩
theorem combB_size (m : List Nat) : (combB m).size = (combS m).length := by
  show (combS m).toArray.size = _
  simp
/-- An element of a list of one-cell values. -/
theorem at_scalar {α : Type} {enc : α → Value} {h1 : ∀ x, (enc x).oneCell' = true} {w : World} {A : Option Addr} {n : Nat} {xs : List α} (h : (Kd.scalar enc h1).C w A n xs) (i : Nat) (hi : i < n) (hx : i < xs.length) :
    ∃ ad, A = some ad ∧ w.cell? (ad.add i) = some (enc xs[i]) := by
  obtain ⟨ad, c, rfl, hl, hk, hc⟩ := Kd.C_get h xs[i] (i : Int) (by omega) (by omega)
  refine ⟨ad, rfl, ?_⟩
  have e : c = [enc (xs.getD (i : Int).toNat xs[i])] := hk
  have h2 := hc 0 (enc xs[i]) (by rw [e]; simp [List.getD_eq_getElem?_getD, hx])
  simpa [Kd.scalar] using h2
set_option maxHeartbeats 1000000 in
theorem parse_comb (n : Nat) (hn : n ≤ 10) (m : List Nat) (hm : ∀ x ∈ m, x < n) (hl : (combS m).length ≤ 40) (w : World) :
    Calls Try.prog 34 #[.string (combB m), .int .i64 (n : Int)] w fun e w' => e = .returned (.tuple #[combV m, .int .i64 0]) ∧ ∃ m, w' = w.drewN m := by
  have hr := fun w => read_comb n hn m hm [] w
  simp only [List.append_nil] at hr
  have HR := Lib.hid (show ∀ w, Calls Try.prog 46 #[.string (combB m), .int .i64 (n : Int)] w fun e w' => e = .returned (.tuple #[combV m, .string ⟨#[]⟩]) ∧ ∃ m, w' = w.drewN m from hr)
  clear hr
  obtain ⟨T, X, hV⟩ := combV_if m
  rw [hV] at HR ⊢
  have d1 : decide ((40 : Int) < ((combB m).size : Int)) = false := decide_eq_false (by rw [combB_size]; omega)
  have d2 : decide ((40 : Nat) < (combB m).size) = false := decide_eq_false (by rw [combB_size]; omega)
  clear hm hl hn hV
  generalize combB m = s at HR d1 d2 ⊢
  go_enter Try.func34, Try.ntmps34
  go_wp2_with (fail)
  refine (HR.out _).mono ?_; rintro e wa ⟨rfl, ⟨m, rfl⟩⟩
  go_wp2_with (fail)
  go_ret2
  exact ⟨rfl, _, rfl⟩
set_option maxHeartbeats 4000000 in
set_option maxRecDepth 100000 in
theorem of_comb (ms : List (List Nat)) (N : Nat) (hN : ms.length = N) (h1 : 1 ≤ N) (h2 : N ≤ 10) (hms : ∀ m ∈ ms, (∀ x ∈ m, x < N) ∧ (combS m).length ≤ 40) (A0 : Option Addr) (c0 : Nat) (w : World) (hr0 : Kd.C Kd.string w A0 N (ms.map combB)) :
    Calls Try.prog 19 #[.slice A0 N c0] w fun e w' => ∃ v0_ : Value, e = .returned (.tuple #[v0_, .int .i64 0]) ∧ Kd.R kF 83 w' w.heap.size (fun _ => True) v0_ ms ∧ Below w.heap.size w w' := by
  have HM := Aside0.mk hms
  have HR0 := Aside0.mk hr0
  have HN := Aside0.mk (show ms.length = N ∧ 1 ≤ N ∧ N ≤ 10 from ⟨hN, h1, h2⟩)
  have d1 : decide ((10 : Int) < (N : Int)) = false := decide_eq_false (by omega)
  have d1n : (10 < N) = False := eq_false (by omega)
  have d2 : ((N : Int) == 0) = false := beq_eq_false_iff_ne.2 (by omega)
  have d2n : (N = 0) = False := eq_false (by omega)
  clear hms hr0 hN h1 h2
  go_enter Try.func19, Try.ntmps19
  go_wp2
  go_loopw [4, 19] (fun v4 v19 wr => ∃ i : Nat, i ≤ N ∧ v19 = .int .i64 (i : Int) ∧ Aside0 (Kd.R kF 83 wr w.heap.size (fun _ => True) v4 (ms.take i)) ∧ Aside0 (Below w.heap.size w wr)) (fun _ v19 _ => N - (intOf v19).toNat)
  case atStart => exact ⟨0, by omega, rfl, ⟨Kd.R_nil _ _ _ _ _⟩, ⟨Below.refl _ _⟩⟩
  case round =>
    obtain ⟨i, hi, rfl, HO, HB⟩ := hrel
    by_cases hiN : i < N
    · have d3 : decide ((i : Int) < (N : Int)) = true := decide_eq_true (by omega)
      have d3n : (i < N) = True := eq_true hiN
      obtain ⟨hl, hn1, hn2⟩ := HN.out
      obtain ⟨ad, e, hcell⟩ := at_scalar HR0.out i hiN (by rw [List.length_map]; omega)
      subst e
      replace hcell := (HB.out.cell (World.block_lt_of_cell? w _ hcell)).trans hcell
      rw [List.getElem_map] at hcell
      have hm := HM.out ms[i] (List.getElem_mem _)
      have HP := Lib.hid (parse_comb N hn2 ms[i] hm.1 hm.2)
      have HT := Aside0.mk (show ms.take (i + 1) = ms.take i ++ [ms[i]] from (List.take_succ_eq_append_getElem (by omega)))
      have HIL := Aside0.mk (show (ms.take i).length = i by rw [List.length_take]; omega)
      generalize ms[i] = m at hcell HP HT
      clear hm hl hn1 hn2 d1 d1n d2 d2n
      obtain ⟨T, X, hV⟩ := combV_if m
      rw [hV] at HP
      have HV := Aside0.mk hV
      clear hV
      go_wp2_with (fail)
      refine (HP.out _).mono ?_; rintro e wa ⟨rfl, ⟨nd, rfl⟩⟩
      go_wp2_with (first | ((with_reducible refine gate_builtin (b := .append) (xs := #[.tmp 33, .tmp 35]) rfl ?_); at_builtin; refine Kd.R_append kF (w0 := w) w.heap.size rfl (.tmp 33) (.tmp 35) 54 83 .nilIface 16 rfl Try.underlying54 info83 rfl (by decide) (by omega) u4 (ms.take i) m [.iface T X] (fun _ => True) (fun _ => False) rfl rfl ?aP (fun _ hk => hk.elim) ?aF ?aO ?aB ?aS ?aL ?_; (case aP => exact congrArg (fun x => [x]) HV.out.symm); (case aF => exact (fun _ _ => trivial)); (case aO => exact (by (with_reducible repeat (first | apply Kd.R_alloc | apply Kd.R_drewN | apply Kd.R_drew)); exact HO.out)); (case aB => exact (by repeat (first | (with_reducible first | exact HB.out | apply below_alloc | apply pw_below_drewN | apply below_drew1) | exact HB.out))); (case aS => exact (below_size (by repeat (first | (with_reducible first | exact HB.out | apply below_alloc | apply pw_below_drewN | apply below_drew1) | exact HB.out)))); (case aL => have := HIL.out; have := HN.out; omega); intro v1 w9 ho hb hg hat; rw [← HT.out] at ho; have n0_ := Aside0.mk (hb); have n1_ := Aside0.mk (ho); clear HB HO; have HB := n0_; have HO := n1_; clear n0_ n1_; clear ho hb hg hat))
      go_roundw
      case rel => exact ⟨i + 1, by omega, vI (by have := HN.out; omega), HO, HB⟩
      case measure => exact mstepA hiN (by have := HN.out; omega)
    · have d3 : decide ((i : Int) < (N : Int)) = false := decide_eq_false (by omega)
      have d3n : (i < N) = False := eq_false hiN
      have e : ms.take i = ms := List.take_of_length_le (by have := HN.out; omega)
      rw [e] at HO
      go_wp2
      go_ret2
      exact ⟨_, rfl, HO.out, HB.out⟩
end Go.Proofs.Ytagmadfllfcloaa.PC
end
section
set_option linter.unusedVariables false
set_option linter.unusedSimpArgs false
/- truth's values on the sentences of a town: the walks. -/
namespace Go.Proofs.Ytagmadfllfcloaa.PC
open Go.RowKit Go.Proofs.YtagmadfllfcloaaW.PrintWords Go.Proofs.YtagmadfllfcloaaW.PrintLast Go.Proofs.YtagmadfllfcloaaW.PrintMore
set_option linter.unusedVariables false
set_option linter.unusedSimpArgs false
/-- The opposite of a value. -/
def opp (c : Nat) : Nat := if c = 48 then 49 else if c = 49 then 48 else 63
/-- Both. -/
def and8 (a b : Nat) : Nat := if a = 48 ∨ b = 48 then 48 else if a = 49 ∧ b = 49 then 49 else 63
theorem and8_spec (q r : Nat) : (and8 q r = 48 ∧ (q = 48 ∨ r = 48)) ∨ (and8 q r = 49 ∧ (q = 49 ∧ r = 49)) ∨ (and8 q r = 63 ∧ (q ≠ 48 ∧ r ≠ 48 ∧ ¬ (q = 49 ∧ r = 49))) := by
  unfold and8
  by_cases h1 : q = 48 ∨ r = 48
  · rw [if_pos h1]; exact .inl ⟨rfl, h1⟩
  by_cases h2 : q = 49 ∧ r = 49
  · rw [if_neg h1, if_pos h2]; exact .inr (.inl ⟨rfl, h2⟩)
  · rw [if_neg h1, if_neg h2]; exact .inr (.inr ⟨rfl, by omega, by omega, h2⟩)
/-- The value of a sentence. -/
def valC (v : List UInt8) : List Nat → Nat
  | [] => 49
  | [x] => opp (v.getD x 0).toNat
  | x :: y :: r => and8 (opp (v.getD x 0).toNat) (valC v (y :: r))
set_option maxHeartbeats 1000000 in
set_option maxRecDepth 100000 in
theorem value_letter (l : List UInt8) (x : Nat) (hx : x < l.length) (w : World) :
    Calls Try.prog 82 #[.int .i64 (x : Int), .string ⟨l.toArray⟩] w fun e w' => e = .returned (.int .u8 ((l.getD x 0).toNat : Int)) ∧ w' = w := by
  have e1 : (l.getD x 0) = l[x] := by simp [List.getD_eq_getElem?_getD, hx]
  rw [e1]
  go_enter Try.func82, Try.ntmps82
  go_wp2
  go_ret
  exact ⟨rfl, rfl⟩
set_option maxHeartbeats 1000000 in
set_option maxRecDepth 100000 in
theorem opp_calls (c : Nat) (w : World) :
    Calls Try.prog 85 #[.int .u8 (c : Int)] w fun e w' => e = .returned (.int .u8 (opp c : Int)) ∧ w' = w := by
  by_cases c1 : c = 48
  · subst c1
    go_enter Try.func85, Try.ntmps85
    go_wp2
    go_ret
    exact ⟨rfl, rfl⟩
  by_cases c2 : c = 49
  · subst c2
    go_enter Try.func85, Try.ntmps85
    go_wp2
    go_ret
    exact ⟨rfl, rfl⟩
  have d1 : ((c : Int) == 48) = false := beq_eq_false_iff_ne.2 (by omega)
  have d2 : ((c : Int) == 49) = false := beq_eq_false_iff_ne.2 (by omega)
  have d1n : (c = 48) = False := eq_false c1
  have d2n : (c = 49) = False := eq_false c2
  have e : opp c = 63 := by unfold opp; rw [if_neg c1, if_neg c2]
  rw [e]
  go_enter Try.func85, Try.ntmps85
  go_wp2
  go_ret
  exact ⟨rfl, rfl⟩
set_option maxHeartbeats 1000000 in
set_option maxRecDepth 100000 in
theorem value_not (l : List UInt8) (x : Nat) (hx : x < l.length) (w : World) :
    Calls Try.prog 84 #[.agg #[.iface 110 (.int .i64 (x : Int))], .string ⟨l.toArray⟩] w fun e w' => e = .returned (.int .u8 (valC l [x] : Int)) ∧ Below w.heap.size w w' := by
  have HL := Lib.hid (value_letter l x hx)
  have HO := Lib.hid (opp_calls (l.getD x 0).toNat)
  unfold valC
  generalize (l.getD x 0).toNat = c at HL HO ⊢
  clear hx
  go_enter Try.func84, Try.ntmps84
  go_wp2_with (fail)
  refine (HL.out _).mono ?_; rintro e wa ⟨rfl, rfl⟩
  go_wp2_with (fail)
  refine (HO.out _).mono ?_; rintro e wa ⟨rfl, rfl⟩
  go_wp2_with (fail)
  go_ret
  exact ⟨rfl, below_alloc (Below.refl _ _) _⟩
theorem box3_keep {w0 W W' : World} {g : Nat} {a b c : Value} (h : W.cell? ⟨g, 0, none⟩ = some a ∧ W.cell? ⟨g, 1, none⟩ = some b ∧ W.cell? ⟨g, 2, none⟩ = some c ∧ Below w0.heap.size w0 W) (hb : Below W.heap.size W W') :
    W'.cell? ⟨g, 0, none⟩ = some a ∧ W'.cell? ⟨g, 1, none⟩ = some b ∧ W'.cell? ⟨g, 2, none⟩ = some c ∧ Below w0.heap.size w0 W' :=
  ⟨(hb.cell (World.block_lt_of_cell? W _ h.1)).trans h.1, (hb.cell (World.block_lt_of_cell? W _ h.2.1)).trans h.2.1, (hb.cell (World.block_lt_of_cell? W _ h.2.2.1)).trans h.2.2.1, h.2.2.2.trans (hb.mono h.2.2.2.size)⟩
set_option maxHeartbeats 4000000 in
set_option maxRecDepth 100000 in
theorem value_pair1 (l : List UInt8) (x : Nat) (hx : x < l.length) (X : Value) (r : Nat) (hX : ∀ w, Calls Try.prog 84 #[X, .string ⟨l.toArray⟩] w fun e w' => e = .returned (.int .u8 (r : Int)) ∧ Below w.heap.size w w') (w : World) :
    Calls Try.prog 87 #[.agg #[.iface 112 (.agg #[.iface 110 (.int .i64 (x : Int))]), .iface 112 X, .int .u8 38], .string ⟨l.toArray⟩] w fun e w' => e = .returned (.int .u8 (and8 (opp (l.getD x 0).toNat) r : Int)) ∧ Below w.heap.size w w' := by
  have HL := Lib.hid (value_not l x hx)
  have HX := Lib.hid hX
  unfold valC at HL
  generalize opp (l.getD x 0).toNat = q at HL ⊢
  clear hX hx
  go_enter Try.func87, Try.ntmps87
  go_wp2
  go_region_held3 (fun W => W.cell? ⟨w.heap.size, 0, none⟩ = some (.iface 112 (.agg #[.iface 110 (.int .i64 (x : Int))])) ∧ W.cell? ⟨w.heap.size, 1, none⟩ = some (.iface 112 X) ∧ W.cell? ⟨w.heap.size, 2, none⟩ = some (.int .u8 38) ∧ Below w.heap.size w W)
    (first | assumption | (exact box3_keep (by assumption) (by assumption)) | (exact ⟨by simp, by simp, by simp, below_drew (below_alloc (Below.refl _ _) _)⟩))
    (first
      | (go_at_call_of 84 (Value.agg #[.iface 110 (.int .i64 (x : Int))]); refine (HL.out _).mono ?_; rintro e w1 ⟨rfl, hb1⟩)
      | (go_at_call_of 84 X; refine (HX.out _).mono ?_; rintro e w1 ⟨rfl, hb2⟩))
  rename_i hS
  have HB := Aside0.mk hS.2.2.2
  go_wp2
  all_goals clear hS HL HX
  all_goals go_ret
  all_goals refine ⟨?_, HB.out⟩
  all_goals (clear HB; simp only [beq_iff_eq, beq_eq_false_iff_ne, ne_eq] at *)
  all_goals (rcases and8_spec q r with ⟨e_, h_⟩ | ⟨e_, h_⟩ | ⟨e_, h_⟩ <;> first | (exfalso; omega) | (rw [e_]; rfl))
set_option maxHeartbeats 4000000 in
set_option maxRecDepth 100000 in
theorem value_pair2 (l : List UInt8) (x : Nat) (hx : x < l.length) (X : Value) (r : Nat) (hX : ∀ w, Calls Try.prog 87 #[X, .string ⟨l.toArray⟩] w fun e w' => e = .returned (.int .u8 (r : Int)) ∧ Below w.heap.size w w') (w : World) :
    Calls Try.prog 87 #[.agg #[.iface 112 (.agg #[.iface 110 (.int .i64 (x : Int))]), .iface 114 X, .int .u8 38], .string ⟨l.toArray⟩] w fun e w' => e = .returned (.int .u8 (and8 (opp (l.getD x 0).toNat) r : Int)) ∧ Below w.heap.size w w' := by
  have HL := Lib.hid (value_not l x hx)
  have HX := Lib.hid hX
  unfold valC at HL
  generalize opp (l.getD x 0).toNat = q at HL ⊢
  clear hX hx
  go_enter Try.func87, Try.ntmps87
  go_wp2
  go_region_held3 (fun W => W.cell? ⟨w.heap.size, 0, none⟩ = some (.iface 112 (.agg #[.iface 110 (.int .i64 (x : Int))])) ∧ W.cell? ⟨w.heap.size, 1, none⟩ = some (.iface 114 X) ∧ W.cell? ⟨w.heap.size, 2, none⟩ = some (.int .u8 38) ∧ Below w.heap.size w W)
    (first | assumption | (exact box3_keep (by assumption) (by assumption)) | (exact ⟨by simp, by simp, by simp, below_drew (below_alloc (Below.refl _ _) _)⟩))
    (first
      | (go_at_call_of 84 (Value.agg #[.iface 110 (.int .i64 (x : Int))]); refine (HL.out _).mono ?_; rintro e w1 ⟨rfl, hb1⟩)
      | (go_at_call_of 87 X; refine (HX.out _).mono ?_; rintro e w1 ⟨rfl, hb2⟩))
  rename_i hS
  have HB := Aside0.mk hS.2.2.2
  go_wp2
  all_goals clear hS HL HX
  all_goals go_ret
  all_goals refine ⟨?_, HB.out⟩
  all_goals (clear HB; simp only [beq_iff_eq, beq_eq_false_iff_ne, ne_eq] at *)
  all_goals (rcases and8_spec q r with ⟨e_, h_⟩ | ⟨e_, h_⟩ | ⟨e_, h_⟩ <;> first | (exfalso; omega) | (rw [e_]; rfl))
/-- The function that a sentence's value is asked of, and what it is asked about. -/
def combF : List Nat → Nat
  | [] => 80
  | [_] => 84
  | _ :: _ :: _ => 87
def combX : List Nat → Value
  | [] => .int .u8 49
  | [x] => .agg #[.iface 110 (.int .i64 (x : Int))]
  | x :: y :: r => .agg #[notV x, combV (y :: r), .int .u8 38]
def combT : List Nat → Nat
  | [] => 109
  | [_] => 112
  | _ :: _ :: _ => 114
theorem combV_is : ∀ m, combV m = .iface (combT m) (combX m)
  | [] => rfl
  | [_] => rfl
  | _ :: _ :: _ => rfl
theorem value_one (l : List UInt8) (w : World) :
    Calls Try.prog 80 #[.int .u8 49, .string ⟨l.toArray⟩] w fun e w' => e = .returned (.int .u8 49) ∧ w' = w := by
  go_enter Try.func80, Try.ntmps80
  go_wp2
  go_ret
  exact ⟨rfl, rfl⟩
theorem value_comb (l : List UInt8) : ∀ (m : List Nat) (hm : ∀ x ∈ m, x < l.length) (w : World),
    Calls Try.prog (combF m) #[combX m, .string ⟨l.toArray⟩] w fun e w' => e = .returned (.int .u8 (valC l m : Int)) ∧ Below w.heap.size w w'
  | [], _, w => (value_one l w).mono fun e w' h => ⟨h.1, by rw [h.2]; exact Below.refl _ _⟩
  | [x], hm, w => value_not l x (hm x (by simp)) w
  | x :: [y], hm, w => value_pair1 l x (hm x (by simp)) (combX [y]) (valC l [y]) (fun w => value_comb l [y] (fun z hz => hm z (List.mem_cons_of_mem _ hz)) w) w
  | x :: y :: z :: r, hm, w => value_pair2 l x (hm x (by simp)) (combX (y :: z :: r)) (valC l (y :: z :: r)) (fun w => value_comb l (y :: z :: r) (fun z hz => hm z (List.mem_cons_of_mem _ hz)) w) w
end Go.Proofs.Ytagmadfllfcloaa.PC
end
section
set_option linter.unusedVariables false
set_option linter.unusedSimpArgs false
/- shave.of: the walk. -/
namespace Go.Proofs.Ytagmadfllfcloaa.PC
open Go.RowKit Go.Proofs.YtagmadfllfcloaaW.PrintWords Go.Proofs.YtagmadfllfcloaaW.PrintLast Go.Proofs.YtagmadfllfcloaaW.PrintMore
set_option linter.unusedVariables false
set_option linter.unusedSimpArgs false
/-- The cells of a town. -/
def townC (n : Int) (o : List Nat) : List Value := .int .i64 n :: o.map (fun x : Nat => Value.int .i64 (x : Int))
/-- A town, as a value. -/
def townV (n : Int) (o : List Nat) : Value := .agg (townC n o).toArray
/-- An arc lies within the town. -/
def inT (n : Int) (p : S41) : Bool := decide (0 ≤ p.f0 ∧ p.f0 < n ∧ 0 ≤ p.f1 ∧ p.f1 < n)
/-- The errors of a town. -/
def townE (n : Int) (l : List S41) : Int := if n < 1 ∨ 12 < n then 2 else if 80 < l.length then 3 else if l.all (inT n) then 0 else 2
/-- One arc more. -/
def arcO (o : List Nat) (p : S41) : List Nat := o.set p.f0.toNat (o.getD p.f0.toNat 0 ||| 2 ^ p.f1.toNat)
/-- Who can shave each person, as bits. -/
def townO (l : List S41) : List Nat := l.foldl arcO (List.replicate 12 0)
theorem alloc2_new (w : World) (Z X : Obj) : ((w.alloc Z).alloc X).heap[w.heap.size + 1]? = some X := by
  show ((w.heap.push Z).push X)[w.heap.size + 1]? = some X
  rw [show w.heap.size + 1 = (w.heap.push Z).size by simp]
  exact Array.getElem?_push_size
theorem alloc2_old (w : World) (Z X : Obj) : ((w.alloc Z).alloc X).heap[w.heap.size]? = some Z := by
  show ((w.heap.push Z).push X)[w.heap.size]? = some Z
  simp [Array.getElem?_push]
/-- What shave.of hands back. -/
def OfPost (n : Int) (l : List S41) (T : Value) (E : Int) : Prop := E = townE n l ∧ ∃ n' o', o'.length = 12 ∧ T = townV n' o' ∧ (E = 0 → n' = n ∧ o' = townO l)
theorem len12 {o : List Nat} (h : o.length = 12) : ∃ a0 a1 a2 a3 a4 a5 a6 a7 a8 a9 a10 a11, o = [a0, a1, a2, a3, a4, a5, a6, a7, a8, a9, a10, a11] := by
  match o, h with
  | [a0, a1, a2, a3, a4, a5, a6, a7, a8, a9, a10, a11], _ => exact ⟨_, _, _, _, _, _, _, _, _, _, _, _, rfl⟩
/-- A town lies in a block of its own. -/
def TownAt (W : World) (g : Nat) (n : Int) (o : List Nat) : Prop := W.heap[g]? = some (.cells (townC n o).toArray 44 (0, 0))
theorem TownAt.zero {W : World} {g : Nat} {n : Int} {o : List Nat} (h : TownAt W g n o) : W.cell? ⟨g, 0, none⟩ = some (.int .i64 n) := by
  unfold TownAt at h
  simp [World.cell?, h, townC]
theorem TownAt.at {W : World} {g : Nat} {n : Int} {o : List Nat} (h : TownAt W g n o) (j : Nat) (hj : j < o.length) : W.cell? ⟨g, 1 + j, none⟩ = some (.int .i64 ((o.getD j 0 : Nat) : Int)) := by
  unfold TownAt at h
  simp [World.cell?, h, townC, List.getD_eq_getElem?_getD, hj, Nat.add_comm 1 j]
theorem TownAt.free {W : World} {g : Nat} {n : Int} {o : List Nat} (h : TownAt W g n o) (j : Nat) : W.frozen? ⟨g, j, none⟩ = false := by
  unfold TownAt at h
  simp [World.frozen?, h]
theorem TownAt.lt {W : World} {g : Nat} {n : Int} {o : List Nat} (h : TownAt W g n o) : g < W.heap.size := World.block_lt_of_cell? W _ h.zero
theorem TownAt.below {W W' : World} {g : Nat} {n : Int} {o : List Nat} (h : TownAt W g n o) (hb : Below W.heap.size W W') : TownAt W' g n o := (hb.block g h.lt).trans h
theorem TownAt.alloc {W : World} {g : Nat} {n : Int} {o : List Nat} (h : TownAt W g n o) (x : Obj) : TownAt (W.alloc x) g n o := h.below ((Below.refl _ _).alloc (Nat.le_refl _) x)
theorem TownAt.drewN {W : World} {g : Nat} {n : Int} {o : List Nat} (h : TownAt W g n o) (m : Nat) : TownAt (W.drewN m) g n o := h
theorem TownAt.drew {W : World} {g : Nat} {n : Int} {o : List Nat} (h : TownAt W g n o) : TownAt W.drew g n o := h
theorem TownAt.set {W : World} {g : Nat} {n : Int} {o : List Nat} (h : TownAt W g n o) (j : Nat) (hj : j < o.length) (x : Nat) : TownAt (W.setCell ⟨g, 1 + j, none⟩ (.int .i64 (x : Int))) g n (o.set j x) := by
  unfold TownAt at h ⊢
  unfold World.setCell
  simp only [Array.getElem?_modify, h, if_true, Option.map_some]
  have e : (townC n o).toArray.setIfInBounds (1 + j) (.int .i64 (x : Int)) = (townC n (o.set j x)).toArray := by
    unfold townC
    rw [List.setIfInBounds_toArray, Nat.add_comm 1 j, List.set_cons_succ, List.map_set]
  simp [e]
theorem arcs_len : ∀ (l : List S41) (o : List Nat), (l.foldl arcO o).length = o.length
  | [], _ => rfl
  | p :: r, o => by rw [List.foldl_cons, arcs_len r]; unfold arcO; rw [List.length_set]
theorem townO_len (l : List S41) : (townO l).length = 12 := by unfold townO; rw [arcs_len, List.length_replicate]
theorem or_val (x b : Nat) (hx : x < 4096) (hb : b < 12) : bits .or .i64 (x : Int) (wrap64 (2 ^ b)) = ((x ||| 2 ^ b : Nat) : Int) := by
  have h2 : (2 : Nat) ^ b < 2 ^ 12 := Nat.pow_lt_pow_right (by decide) hb
  have e : wrap64 ((2 : Int) ^ b) = ((2 ^ b : Nat) : Int) := by
    have : ((2 : Int) ^ b) = ((2 ^ b : Nat) : Int) := by push_cast; rfl
    rw [this]
    generalize 2 ^ b = q at h2
    unfold wrap64
    omega
  rw [e]
  exact (bits_nat .i64 63 (by decide) (fun n h0 h1 => by rw [IntKind.wrap_i64]; omega) x (2 ^ b) (by omega) (by omega)).2
theorem arcs_lt (n : Int) (hn : n ≤ 12) : ∀ (l : List S41) (o : List Nat), (∀ j, o.getD j 0 < 4096) → l.all (inT n) = true → ∀ j, (l.foldl arcO o).getD j 0 < 4096
  | [], _, h, _ => h
  | p :: r, o, h, ha => by
    rw [List.all_cons, Bool.and_eq_true] at ha
    rw [List.foldl_cons]
    refine arcs_lt n hn r _ (fun j => ?_) ha.2
    have hp := of_decide_eq_true ha.1
    unfold arcO
    simp only [List.getD_eq_getElem?_getD, List.getElem?_set]
    split
    · split
      · refine Nat.or_lt_two_pow (n := 12) ?_ (Nat.pow_lt_pow_right (by decide) (by omega))
        have := h p.f0.toNat
        simpa [List.getD_eq_getElem?_getD] using this
      · simp
    · have := h j
      simpa [List.getD_eq_getElem?_getD] using this
theorem townO_lt (l : List S41) (n : Int) (hn : n ≤ 12) (h : l.all (inT n) = true) (j : Nat) : (townO l).getD j 0 < 4096 := by
  refine arcs_lt n hn l _ (fun j => ?_) h j
  simp only [List.getD_eq_getElem?_getD, List.getElem?_replicate]
  split <;> simp
theorem below_put {B g j : Nat} {W0 W : World} (h : Below B W0 W) (hg : B ≤ g) (v : Value) : Below B W0 (W.setCell ⟨g, j, none⟩ v) := h.setCell (p := ⟨g, j, none⟩) hg v
theorem blk_set {W : World} {g j : Nat} {l : List Value} {e : TypeId} {f : Nat × Nat} (h : W.heap[g]? = some (.cells l.toArray e f)) (v : Value) : (W.setCell ⟨g, j, none⟩ v).heap[g]? = some (.cells (l.set j v).toArray e f) := by
  unfold World.setCell
  simp only [Array.getElem?_modify, h, if_true, Option.map_some, List.setIfInBounds_toArray]
  rfl
theorem town_blk {W : World} {g : Nat} (h : TownAt W g 0 (List.replicate 12 0)) : W.heap[g]? = some (.cells ([Value.int .i64 0, Value.int .i64 0, Value.int .i64 0, Value.int .i64 0, Value.int .i64 0, Value.int .i64 0, Value.int .i64 0, Value.int .i64 0, Value.int .i64 0, Value.int .i64 0, Value.int .i64 0, Value.int .i64 0, Value.int .i64 0]).toArray 44 (0, 0)) := h
theorem town_put {W : World} {g : Nat} (h : TownAt W g 0 (List.replicate 12 0)) (n : Int) (o0 o1 o2 o3 o4 o5 o6 o7 o8 o9 o10 o11 : Nat) :
    TownAt ((((((((((((((W.setCell ⟨g, 0, none⟩ (.int .i64 n)).setCell ⟨g, 1, none⟩ (.int .i64 (o0 : Int))).setCell ⟨g, 2, none⟩ (.int .i64 (o1 : Int))).setCell ⟨g, 3, none⟩ (.int .i64 (o2 : Int))).setCell ⟨g, 4, none⟩ (.int .i64 (o3 : Int))).setCell ⟨g, 5, none⟩ (.int .i64 (o4 : Int))).setCell ⟨g, 6, none⟩ (.int .i64 (o5 : Int))).setCell ⟨g, 7, none⟩ (.int .i64 (o6 : Int))).setCell ⟨g, 8, none⟩ (.int .i64 (o7 : Int))).setCell ⟨g, 9, none⟩ (.int .i64 (o8 : Int))).setCell ⟨g, 10, none⟩ (.int .i64 (o9 : Int))).setCell ⟨g, 11, none⟩ (.int .i64 (o10 : Int))).setCell ⟨g, 12, none⟩ (.int .i64 (o11 : Int)))) g n [o0, o1, o2, o3, o4, o5, o6, o7, o8, o9, o10, o11] := by
  have h := town_blk h
  replace h := blk_set (j := 0) h (.int .i64 n)
  replace h := blk_set (j := 1) h (.int .i64 (o0 : Int))
  replace h := blk_set (j := 2) h (.int .i64 (o1 : Int))
  replace h := blk_set (j := 3) h (.int .i64 (o2 : Int))
  replace h := blk_set (j := 4) h (.int .i64 (o3 : Int))
  replace h := blk_set (j := 5) h (.int .i64 (o4 : Int))
  replace h := blk_set (j := 6) h (.int .i64 (o5 : Int))
  replace h := blk_set (j := 7) h (.int .i64 (o6 : Int))
  replace h := blk_set (j := 8) h (.int .i64 (o7 : Int))
  replace h := blk_set (j := 9) h (.int .i64 (o8 : Int))
  replace h := blk_set (j := 10) h (.int .i64 (o9 : Int))
  replace h := blk_set (j := 11) h (.int .i64 (o10 : Int))
  replace h := blk_set (j := 12) h (.int .i64 (o11 : Int))
  simp only [List.set_cons_zero, List.set_cons_succ] at h
  exact h
theorem town_put0 {W : World} {g : Nat} (h : TownAt W g 0 (List.replicate 12 0)) :
    TownAt ((((((((((((((W.setCell ⟨g, 0, none⟩ (.int .i64 0)).setCell ⟨g, 1, none⟩ (.int .i64 0)).setCell ⟨g, 2, none⟩ (.int .i64 0)).setCell ⟨g, 3, none⟩ (.int .i64 0)).setCell ⟨g, 4, none⟩ (.int .i64 0)).setCell ⟨g, 5, none⟩ (.int .i64 0)).setCell ⟨g, 6, none⟩ (.int .i64 0)).setCell ⟨g, 7, none⟩ (.int .i64 0)).setCell ⟨g, 8, none⟩ (.int .i64 0)).setCell ⟨g, 9, none⟩ (.int .i64 0)).setCell ⟨g, 10, none⟩ (.int .i64 0)).setCell ⟨g, 11, none⟩ (.int .i64 0)).setCell ⟨g, 12, none⟩ (.int .i64 0))) g 0 (List.replicate 12 0) := by
  have h := town_blk h
  replace h := blk_set (j := 0) h (.int .i64 0)
  replace h := blk_set (j := 1) h (.int .i64 0)
  replace h := blk_set (j := 2) h (.int .i64 0)
  replace h := blk_set (j := 3) h (.int .i64 0)
  replace h := blk_set (j := 4) h (.int .i64 0)
  replace h := blk_set (j := 5) h (.int .i64 0)
  replace h := blk_set (j := 6) h (.int .i64 0)
  replace h := blk_set (j := 7) h (.int .i64 0)
  replace h := blk_set (j := 8) h (.int .i64 0)
  replace h := blk_set (j := 9) h (.int .i64 0)
  replace h := blk_set (j := 10) h (.int .i64 0)
  replace h := blk_set (j := 11) h (.int .i64 0)
  replace h := blk_set (j := 12) h (.int .i64 0)
  simp only [List.set_cons_zero, List.set_cons_succ] at h
  exact h
theorem TownAt.far {W : World} {g : Nat} {n : Int} {o : List Nat} (h : TownAt W g n o) {p : Addr} (hne : g ≠ p.block) (v : Value) : TownAt (W.setCell p v) g n o := (Below.heap_setCell W p v g hne).trans h
set_option maxHeartbeats 40000000 in
set_option maxRecDepth 100000 in
theorem shave_of (n : Int) (A1 : Option Addr) (c1 : Nat) (l1 : List S41) (w : World) (hr1 : Kd.C k41 w A1 l1.length l1) :
    Calls Try.prog 13 #[.int .i64 n, .slice A1 l1.length c1] w fun e w' => (∃ T E, e = .returned (.tuple #[T, .int .i64 E]) ∧ OfPost n l1 T E) ∧ Below w.heap.size w w' := by
  have HR1 := Aside0.mk hr1
  obtain ⟨N, hN⟩ : ∃ N, l1.length = N := ⟨_, rfl⟩
  have HN := Aside0.mk hN
  rw [hN] at hr1 ⊢
  clear hr1 
  by_cases c1 : n < 1
  · have HP := Aside0.mk (show OfPost n l1 (townV 0 (List.replicate 12 0)) 2 from ⟨(show townE n l1 = 2 by unfold townE; rw [if_pos (.inl c1)]).symm, 0, _, by decide, rfl, fun h => by omega⟩)
    have d1 : decide (n < 1) = true := decide_eq_true c1
    clear hN
    go_enter Try.func13, Try.ntmps13
    go_wp2
    go_returns
    exact ⟨⟨_, _, rfl, HP.out⟩, by go_grown⟩
  by_cases c2 : 12 < n
  · have HP := Aside0.mk (show OfPost n l1 (townV 0 (List.replicate 12 0)) 2 from ⟨(show townE n l1 = 2 by unfold townE; rw [if_pos (.inr c2)]).symm, 0, _, by decide, rfl, fun h => by omega⟩)
    have d1 : decide (n < 1) = false := decide_eq_false c1
    have d2 : decide (12 < n) = true := decide_eq_true c2
    clear hN
    go_enter Try.func13, Try.ntmps13
    go_wp2
    go_returns
    exact ⟨⟨_, _, rfl, HP.out⟩, by go_grown⟩
  have d1 : decide (n < 1) = false := decide_eq_false c1
  have d2 : decide (12 < n) = false := decide_eq_false c2
  by_cases c3 : 80 < N
  · have HP := Aside0.mk (show OfPost n l1 (townV 0 (List.replicate 12 0)) 3 from ⟨(show townE n l1 = 3 by unfold townE; rw [if_neg (by omega), if_pos (by omega)]).symm, 0, _, by decide, rfl, fun h => by omega⟩)
    have d3 : decide ((80 : Int) < (N : Int)) = true := decide_eq_true (by omega)
    have d3n : (80 < N) = True := eq_true c3
    clear hN
    go_enter Try.func13, Try.ntmps13
    go_wp2
    go_returns
    exact ⟨⟨_, _, rfl, HP.out⟩, by go_grown⟩
  have hE : townE n l1 = if l1.all (inT n) then 0 else 2 := by unfold townE; rw [if_neg (by omega), if_neg (by omega)]
  have HE := Aside0.mk hE
  clear hE
  have d3 : decide ((80 : Int) < (N : Int)) = false := decide_eq_false (by omega)
  have d3n : (80 < N) = False := eq_false c3
  have HNN := Aside0.mk (show 1 ≤ n ∧ n ≤ 12 ∧ N ≤ 80 by omega)
  clear hN c1 c2 c3
  go_enter Try.func13, Try.ntmps13
  go_wp2
  obtain ⟨g1, hg1⟩ : ∃ g1, g1 = w.heap.size + 1 := ⟨_, rfl⟩
  generalize hW : (World.alloc _ _ : World) = w1
  have hb1 : Below w.heap.size w w1 := by rw [← hW]; go_grown
  have ht1 : TownAt w1 g1 n (List.replicate 12 0) := by subst hW; subst hg1; exact alloc2_new w _ _
  have hz1 : TownAt w1 w.heap.size 0 (List.replicate 12 0) := by subst hW; exact alloc2_old w _ _
  rw [← hg1]
  clear hW
  have HB := Aside0.mk hb1
  have HT := Aside0.mk ht1
  have HZ := Aside0.mk hz1
  have HG := Aside0.mk hg1
  clear hb1 ht1 hz1 hg1
  obtain ⟨g0, hg0⟩ : ∃ g0, g0 = w.heap.size := ⟨_, rfl⟩
  rw [← hg0] at HZ ⊢
  have HG0 := Aside0.mk hg0
  clear hg0
  go_loopw [26] (fun v26 wr => ∃ i : Nat, i ≤ N ∧ v26 = .int .i64 (i : Int) ∧ Aside0 ((l1.take i).all (inT n) = true) ∧ Aside0 (TownAt wr g1 n (townO (l1.take i))) ∧ Aside0 (TownAt wr g0 0 (List.replicate 12 0)) ∧ Aside0 (Below w.heap.size w wr)) (fun v26 _ => N - (intOf v26).toNat)
  case atStart => exact ⟨0, by omega, rfl, ⟨rfl⟩, HT, HZ, HB⟩
  case round =>
    clear HT HZ HB
    obtain ⟨i, hi, rfl, HA, HT, HZ, HB⟩ := hrel
    by_cases hiN : i < N
    · have d4 : decide ((i : Int) < (N : Int)) = true := decide_eq_true (by omega)
      have d4n : (i < N) = True := eq_true hiN
      have hl := HN.out
      obtain ⟨ad, e, hx0, hx1⟩ := at_T41 HR1.out (i : Int) (by omega) (by omega)
      cases e
      replace hx0 := (HB.out.cell (World.block_lt_of_cell? w _ hx0)).trans hx0
      replace hx1 := (HB.out.cell (World.block_lt_of_cell? w _ hx1)).trans hx1
      have hrd : rd_T41 l1 (i : Int) = l1[i] := by unfold rd_T41; simp [List.getD_eq_getElem?_getD, hl, hiN]
      rw [hrd] at hx0 hx1
      rw [Int.toNat_natCast] at hx0 hx1
      have HTK := Aside0.mk (show l1.take (i + 1) = l1.take i ++ [l1[i]] from (List.take_succ_eq_append_getElem (by omega)))
      have HMEM := Aside0.mk (show l1[i] ∈ l1 from List.getElem_mem _)
      generalize l1[i] = p at hx0 hx1 HTK HMEM
      obtain ⟨a, b⟩ := p
      simp only [] at hx0 hx1
      clear hl hrd d1 d2 d3 d3n
      by_cases hp : inT n ⟨a, b⟩ = true
      · have hin := of_decide_eq_true hp
        simp only [] at hin
        obtain ⟨q1, q2, q3, q4⟩ := hin
        have e1 : decide (a < 0) = false := decide_eq_false (by omega)
        have e2 : decide (n ≤ a) = false := decide_eq_false (by omega)
        have e3 : decide (b < 0) = false := decide_eq_false (by omega)
        have e4 : decide (n ≤ b) = false := decide_eq_false (by omega)
        obtain ⟨a, rfl⟩ := Int.eq_ofNat_of_zero_le q1
        obtain ⟨b, rfl⟩ := Int.eq_ofNat_of_zero_le q3
        have hlen : (townO (l1.take i)).length = 12 := townO_len _
        have hA := HT.out.at a (by have := HNN.out; omega)
        have hF := HT.out.free (1 + a)
        have q5 : a < 12 := by have := HNN.out; omega
        have q6 : b < 12 := by have := HNN.out; omega
        clear q1 q3
        go_wp2_with (fail)
        obtain ⟨gp, hgp⟩ : ∃ gp, gp = wr.heap.size := ⟨_, rfl⟩
        rw [← hgp]
        generalize hwp : (World.alloc wr _ : World) = wp
        have hT2 : TownAt wp g1 n (townO (l1.take i)) := by rw [← hwp]; exact HT.out.alloc _
        have hZ2 : TownAt wp g0 0 (List.replicate 12 0) := by rw [← hwp]; exact HZ.out.alloc _
        have hB2 : Below w.heap.size w wp := by rw [← hwp]; exact HB.out.alloc HB.out.size _
        have hp0 : wp.cell? ⟨gp, 0, none⟩ = some (.int .i64 (a : Int)) := by rw [← hwp, hgp]; simp
        have hp1 : wp.cell? ⟨gp, 1, none⟩ = some (.int .i64 (b : Int)) := by rw [← hwp, hgp]; simp
        clear hwp hgp hx0 hx1 hA hF HT HZ HB
        refine wp_region_still_tail 11 (by kernel_rfl) (by kernel_rfl) ?_
        simp only [List.take_succ_cons, List.take_zero, List.drop_succ_cons, List.drop_zero]
        change wpStill _ _ wp.drew _ _ _
        replace hT2 : TownAt wp.drew g1 n (townO (l1.take i)) := hT2
        replace hZ2 : TownAt wp.drew g0 0 (List.replicate 12 0) := hZ2
        replace hB2 : Below w.heap.size w wp.drew := hB2.drew
        replace hp0 : wp.drew.cell? ⟨gp, 0, none⟩ = some (.int .i64 (a : Int)) := hp0
        replace hp1 : wp.drew.cell? ⟨gp, 1, none⟩ = some (.int .i64 (b : Int)) := hp1
        change wpStill _ _ _ (fun a' => wpList _ _ _ _ a' wp.drew) _ _
        generalize wp.drew = wd at hT2 hZ2 hB2 hp0 hp1 ⊢
        have hA := hT2.at a (by omega)
        have hF := hT2.free (1 + a)
        have HT2 := Aside0.mk hT2
        have HZ2 := Aside0.mk hZ2
        have HB2 := Aside0.mk hB2
        clear hT2 hZ2 hB2
        have hb1 : ((a : Int) < 12) = True := eq_true (by omega)
        have hb2 : (a < 12) = True := eq_true (by omega)
        obtain ⟨x, hx⟩ : ∃ x, (townO (l1.take i)).getD a 0 = x := ⟨_, rfl⟩
        rw [hx] at hA
        have hor : bits .or .i64 (x : Int) (wrap64 (2 ^ b)) = ((x ||| 2 ^ b : Nat) : Int) := or_val x b (by rw [← hx]; exact townO_lt _ n (by have := HNN.out; omega) HA.out a) q6
        have HX := Aside0.mk (show townO (l1.take (i + 1)) = (townO (l1.take i)).set a (x ||| 2 ^ b) by rw [HTK.out, ← hx]; unfold townO; rw [List.foldl_append]; rfl)
        clear hx
        repeat still_step
        refine wpStill_nil ?_
        go_wp2
        refine ⟨⟨i + 1, by omega, vI (by have := HNN.out; omega), ⟨by rw [HTK.out, List.all_append, HA.out]; simpa using hp⟩, ⟨by rw [HX.out]; exact HT2.out.set a (by rw [hlen]; exact q5) _⟩, ⟨HZ2.out.far (by have := HG.out; have := HG0.out; show g0 ≠ g1; omega) _⟩, ⟨HB2.out.setCell (p := ⟨g1, 1 + a, none⟩) (by have := HG.out; show w.heap.size ≤ g1; omega) _⟩⟩, mstepA hiN (by have := HNN.out; omega)⟩
      · have HP := Aside0.mk (show OfPost n l1 (townV 0 (List.replicate 12 0)) 2 from ⟨by
          rw [HE.out, if_neg]
          intro h
          exact hp ((List.all_eq_true.1 h) _ HMEM.out), 0, _, by decide, rfl, fun h => by omega⟩)
        simp only [inT, decide_eq_true_eq] at hp
        have hz : TownAt (wr.alloc (.cells #[.int .i64 a, .int .i64 b] 41)) g0 0 (List.replicate 12 0) := HZ.out.alloc _
        have z0 : (wr.alloc (.cells #[.int .i64 a, .int .i64 b] 41)).cell? ⟨g0, 0, none⟩ = some (.int .i64 0) := hz.zero
        have z1 : (wr.alloc (.cells #[.int .i64 a, .int .i64 b] 41)).cell? ⟨g0, 1, none⟩ = some (.int .i64 0) := hz.at 0 (by decide)
        have z2 : (wr.alloc (.cells #[.int .i64 a, .int .i64 b] 41)).cell? ⟨g0, 2, none⟩ = some (.int .i64 0) := hz.at 1 (by decide)
        have z3 : (wr.alloc (.cells #[.int .i64 a, .int .i64 b] 41)).cell? ⟨g0, 3, none⟩ = some (.int .i64 0) := hz.at 2 (by decide)
        have z4 : (wr.alloc (.cells #[.int .i64 a, .int .i64 b] 41)).cell? ⟨g0, 4, none⟩ = some (.int .i64 0) := hz.at 3 (by decide)
        have z5 : (wr.alloc (.cells #[.int .i64 a, .int .i64 b] 41)).cell? ⟨g0, 5, none⟩ = some (.int .i64 0) := hz.at 4 (by decide)
        have z6 : (wr.alloc (.cells #[.int .i64 a, .int .i64 b] 41)).cell? ⟨g0, 6, none⟩ = some (.int .i64 0) := hz.at 5 (by decide)
        have z7 : (wr.alloc (.cells #[.int .i64 a, .int .i64 b] 41)).cell? ⟨g0, 7, none⟩ = some (.int .i64 0) := hz.at 6 (by decide)
        have z8 : (wr.alloc (.cells #[.int .i64 a, .int .i64 b] 41)).cell? ⟨g0, 8, none⟩ = some (.int .i64 0) := hz.at 7 (by decide)
        have z9 : (wr.alloc (.cells #[.int .i64 a, .int .i64 b] 41)).cell? ⟨g0, 9, none⟩ = some (.int .i64 0) := hz.at 8 (by decide)
        have z10 : (wr.alloc (.cells #[.int .i64 a, .int .i64 b] 41)).cell? ⟨g0, 10, none⟩ = some (.int .i64 0) := hz.at 9 (by decide)
        have z11 : (wr.alloc (.cells #[.int .i64 a, .int .i64 b] 41)).cell? ⟨g0, 11, none⟩ = some (.int .i64 0) := hz.at 10 (by decide)
        have z12 : (wr.alloc (.cells #[.int .i64 a, .int .i64 b] 41)).cell? ⟨g0, 12, none⟩ = some (.int .i64 0) := hz.at 11 (by decide)
        have zf : ∀ j : Nat, (wr.alloc (.cells #[.int .i64 a, .int .i64 b] 41)).frozen? ⟨g0, j, none⟩ = false := hz.free
        have HZA := Aside0.mk hz
        clear hz HZ HT
        have HBA := Aside0.mk (HB.out.alloc HB.out.size (.cells #[.int .i64 a, .int .i64 b] 41))
        have HG1 := Aside0.mk (show w.heap.size ≤ g0 by have := HG0.out; omega)
        have hcase : a < 0 ∨ (0 ≤ a ∧ n ≤ a) ∨ (0 ≤ a ∧ a < n ∧ b < 0) ∨ (0 ≤ a ∧ a < n ∧ 0 ≤ b ∧ n ≤ b) := by omega
        clear hp
        rcases hcase with h1 | ⟨h1, h2⟩ | ⟨h1, h2, h3⟩ | ⟨h1, h2, h3, h4⟩
        · have e0 : decide (a < 0) = true := decide_eq_true (by omega)
          go_wp2
          generalize hWf : (World.setCell _ _ _ : World) = Wf
          have htf : TownAt Wf g0 0 (List.replicate 12 0) := by rw [← hWf]; with_reducible exact town_put0 HZA.out
          have hbf : Below w.heap.size w Wf := by rw [← hWf]; (with_reducible repeat (first | exact HBA.out | refine below_put ?_ HG1.out _))
          clear hWf
          have f0 : Wf.cell? ⟨g0, 0, none⟩ = some (.int .i64 0) := htf.zero
          have f1 : Wf.cell? ⟨g0, 1, none⟩ = some (.int .i64 0) := htf.at 0 (by decide)
          have f2 : Wf.cell? ⟨g0, 2, none⟩ = some (.int .i64 0) := htf.at 1 (by decide)
          have f3 : Wf.cell? ⟨g0, 3, none⟩ = some (.int .i64 0) := htf.at 2 (by decide)
          have f4 : Wf.cell? ⟨g0, 4, none⟩ = some (.int .i64 0) := htf.at 3 (by decide)
          have f5 : Wf.cell? ⟨g0, 5, none⟩ = some (.int .i64 0) := htf.at 4 (by decide)
          have f6 : Wf.cell? ⟨g0, 6, none⟩ = some (.int .i64 0) := htf.at 5 (by decide)
          have f7 : Wf.cell? ⟨g0, 7, none⟩ = some (.int .i64 0) := htf.at 6 (by decide)
          have f8 : Wf.cell? ⟨g0, 8, none⟩ = some (.int .i64 0) := htf.at 7 (by decide)
          have f9 : Wf.cell? ⟨g0, 9, none⟩ = some (.int .i64 0) := htf.at 8 (by decide)
          have f10 : Wf.cell? ⟨g0, 10, none⟩ = some (.int .i64 0) := htf.at 9 (by decide)
          have f11 : Wf.cell? ⟨g0, 11, none⟩ = some (.int .i64 0) := htf.at 10 (by decide)
          have f12 : Wf.cell? ⟨g0, 12, none⟩ = some (.int .i64 0) := htf.at 11 (by decide)
          clear htf
          refine bodyPost_ret (by simp [results, Try.results13, go_sem, f0, f1, f2, f3, f4, f5, f6, f7, f8, f9, f10, f11, f12]; try rfl) rfl ?_
          exact ⟨⟨_, _, rfl, HP.out⟩, hbf⟩
        · have e0 : decide (a < 0) = false := decide_eq_false (by omega)
          have e1 : decide (n ≤ a) = true := decide_eq_true (by omega)
          go_wp2
          generalize hWf : (World.setCell _ _ _ : World) = Wf
          have htf : TownAt Wf g0 0 (List.replicate 12 0) := by rw [← hWf]; with_reducible exact town_put0 HZA.out
          have hbf : Below w.heap.size w Wf := by rw [← hWf]; (with_reducible repeat (first | exact HBA.out | refine below_put ?_ HG1.out _))
          clear hWf
          have f0 : Wf.cell? ⟨g0, 0, none⟩ = some (.int .i64 0) := htf.zero
          have f1 : Wf.cell? ⟨g0, 1, none⟩ = some (.int .i64 0) := htf.at 0 (by decide)
          have f2 : Wf.cell? ⟨g0, 2, none⟩ = some (.int .i64 0) := htf.at 1 (by decide)
          have f3 : Wf.cell? ⟨g0, 3, none⟩ = some (.int .i64 0) := htf.at 2 (by decide)
          have f4 : Wf.cell? ⟨g0, 4, none⟩ = some (.int .i64 0) := htf.at 3 (by decide)
          have f5 : Wf.cell? ⟨g0, 5, none⟩ = some (.int .i64 0) := htf.at 4 (by decide)
          have f6 : Wf.cell? ⟨g0, 6, none⟩ = some (.int .i64 0) := htf.at 5 (by decide)
          have f7 : Wf.cell? ⟨g0, 7, none⟩ = some (.int .i64 0) := htf.at 6 (by decide)
          have f8 : Wf.cell? ⟨g0, 8, none⟩ = some (.int .i64 0) := htf.at 7 (by decide)
          have f9 : Wf.cell? ⟨g0, 9, none⟩ = some (.int .i64 0) := htf.at 8 (by decide)
          have f10 : Wf.cell? ⟨g0, 10, none⟩ = some (.int .i64 0) := htf.at 9 (by decide)
          have f11 : Wf.cell? ⟨g0, 11, none⟩ = some (.int .i64 0) := htf.at 10 (by decide)
          have f12 : Wf.cell? ⟨g0, 12, none⟩ = some (.int .i64 0) := htf.at 11 (by decide)
          clear htf
          refine bodyPost_ret (by simp [results, Try.results13, go_sem, f0, f1, f2, f3, f4, f5, f6, f7, f8, f9, f10, f11, f12]; try rfl) rfl ?_
          exact ⟨⟨_, _, rfl, HP.out⟩, hbf⟩
        · have e0 : decide (a < 0) = false := decide_eq_false (by omega)
          have e1 : decide (n ≤ a) = false := decide_eq_false (by omega)
          have e2 : decide (b < 0) = true := decide_eq_true (by omega)
          go_wp2
          generalize hWf : (World.setCell _ _ _ : World) = Wf
          have htf : TownAt Wf g0 0 (List.replicate 12 0) := by rw [← hWf]; with_reducible exact town_put0 HZA.out
          have hbf : Below w.heap.size w Wf := by rw [← hWf]; (with_reducible repeat (first | exact HBA.out | refine below_put ?_ HG1.out _))
          clear hWf
          have f0 : Wf.cell? ⟨g0, 0, none⟩ = some (.int .i64 0) := htf.zero
          have f1 : Wf.cell? ⟨g0, 1, none⟩ = some (.int .i64 0) := htf.at 0 (by decide)
          have f2 : Wf.cell? ⟨g0, 2, none⟩ = some (.int .i64 0) := htf.at 1 (by decide)
          have f3 : Wf.cell? ⟨g0, 3, none⟩ = some (.int .i64 0) := htf.at 2 (by decide)
          have f4 : Wf.cell? ⟨g0, 4, none⟩ = some (.int .i64 0) := htf.at 3 (by decide)
          have f5 : Wf.cell? ⟨g0, 5, none⟩ = some (.int .i64 0) := htf.at 4 (by decide)
          have f6 : Wf.cell? ⟨g0, 6, none⟩ = some (.int .i64 0) := htf.at 5 (by decide)
          have f7 : Wf.cell? ⟨g0, 7, none⟩ = some (.int .i64 0) := htf.at 6 (by decide)
          have f8 : Wf.cell? ⟨g0, 8, none⟩ = some (.int .i64 0) := htf.at 7 (by decide)
          have f9 : Wf.cell? ⟨g0, 9, none⟩ = some (.int .i64 0) := htf.at 8 (by decide)
          have f10 : Wf.cell? ⟨g0, 10, none⟩ = some (.int .i64 0) := htf.at 9 (by decide)
          have f11 : Wf.cell? ⟨g0, 11, none⟩ = some (.int .i64 0) := htf.at 10 (by decide)
          have f12 : Wf.cell? ⟨g0, 12, none⟩ = some (.int .i64 0) := htf.at 11 (by decide)
          clear htf
          refine bodyPost_ret (by simp [results, Try.results13, go_sem, f0, f1, f2, f3, f4, f5, f6, f7, f8, f9, f10, f11, f12]; try rfl) rfl ?_
          exact ⟨⟨_, _, rfl, HP.out⟩, hbf⟩
        · have e0 : decide (a < 0) = false := decide_eq_false (by omega)
          have e1 : decide (n ≤ a) = false := decide_eq_false (by omega)
          have e2 : decide (b < 0) = false := decide_eq_false (by omega)
          have e3 : decide (n ≤ b) = true := decide_eq_true (by omega)
          go_wp2
          generalize hWf : (World.setCell _ _ _ : World) = Wf
          have htf : TownAt Wf g0 0 (List.replicate 12 0) := by rw [← hWf]; with_reducible exact town_put0 HZA.out
          have hbf : Below w.heap.size w Wf := by rw [← hWf]; (with_reducible repeat (first | exact HBA.out | refine below_put ?_ HG1.out _))
          clear hWf
          have f0 : Wf.cell? ⟨g0, 0, none⟩ = some (.int .i64 0) := htf.zero
          have f1 : Wf.cell? ⟨g0, 1, none⟩ = some (.int .i64 0) := htf.at 0 (by decide)
          have f2 : Wf.cell? ⟨g0, 2, none⟩ = some (.int .i64 0) := htf.at 1 (by decide)
          have f3 : Wf.cell? ⟨g0, 3, none⟩ = some (.int .i64 0) := htf.at 2 (by decide)
          have f4 : Wf.cell? ⟨g0, 4, none⟩ = some (.int .i64 0) := htf.at 3 (by decide)
          have f5 : Wf.cell? ⟨g0, 5, none⟩ = some (.int .i64 0) := htf.at 4 (by decide)
          have f6 : Wf.cell? ⟨g0, 6, none⟩ = some (.int .i64 0) := htf.at 5 (by decide)
          have f7 : Wf.cell? ⟨g0, 7, none⟩ = some (.int .i64 0) := htf.at 6 (by decide)
          have f8 : Wf.cell? ⟨g0, 8, none⟩ = some (.int .i64 0) := htf.at 7 (by decide)
          have f9 : Wf.cell? ⟨g0, 9, none⟩ = some (.int .i64 0) := htf.at 8 (by decide)
          have f10 : Wf.cell? ⟨g0, 10, none⟩ = some (.int .i64 0) := htf.at 9 (by decide)
          have f11 : Wf.cell? ⟨g0, 11, none⟩ = some (.int .i64 0) := htf.at 10 (by decide)
          have f12 : Wf.cell? ⟨g0, 12, none⟩ = some (.int .i64 0) := htf.at 11 (by decide)
          clear htf
          refine bodyPost_ret (by simp [results, Try.results13, go_sem, f0, f1, f2, f3, f4, f5, f6, f7, f8, f9, f10, f11, f12]; try rfl) rfl ?_
          exact ⟨⟨_, _, rfl, HP.out⟩, hbf⟩
    · have d4 : decide ((i : Int) < (N : Int)) = false := decide_eq_false (by omega)
      have d4n : (i < N) = False := eq_false hiN
      obtain rfl : i = N := by omega
      have hl := HN.out
      have ha := HA.out
      have ht := HT.out
      rw [List.take_of_length_le (by omega)] at ha ht
      have HP := Aside0.mk (show OfPost n l1 (townV n (townO l1)) 0 from ⟨by rw [HE.out, if_pos ha], n, _, townO_len _, rfl, fun _ => ⟨rfl, rfl⟩⟩)
      obtain ⟨o0, o1, o2, o3, o4, o5, o6, o7, o8, o9, o10, o11, ho⟩ := len12 (townO_len l1)
      rw [ho] at ht
      have HP := Aside0.mk (show OfPost n l1 (townV n [o0, o1, o2, o3, o4, o5, o6, o7, o8, o9, o10, o11]) 0 by have h := HP.out; rwa [ho] at h)
      have hz := HZ.out
      have z0 : wr.cell? ⟨g0, 0, none⟩ = some (.int .i64 0) := hz.zero
      have z1 : wr.cell? ⟨g0, 1, none⟩ = some (.int .i64 0) := hz.at 0 (by decide)
      have z2 : wr.cell? ⟨g0, 2, none⟩ = some (.int .i64 0) := hz.at 1 (by decide)
      have z3 : wr.cell? ⟨g0, 3, none⟩ = some (.int .i64 0) := hz.at 2 (by decide)
      have z4 : wr.cell? ⟨g0, 4, none⟩ = some (.int .i64 0) := hz.at 3 (by decide)
      have z5 : wr.cell? ⟨g0, 5, none⟩ = some (.int .i64 0) := hz.at 4 (by decide)
      have z6 : wr.cell? ⟨g0, 6, none⟩ = some (.int .i64 0) := hz.at 5 (by decide)
      have z7 : wr.cell? ⟨g0, 7, none⟩ = some (.int .i64 0) := hz.at 6 (by decide)
      have z8 : wr.cell? ⟨g0, 8, none⟩ = some (.int .i64 0) := hz.at 7 (by decide)
      have z9 : wr.cell? ⟨g0, 9, none⟩ = some (.int .i64 0) := hz.at 8 (by decide)
      have z10 : wr.cell? ⟨g0, 10, none⟩ = some (.int .i64 0) := hz.at 9 (by decide)
      have z11 : wr.cell? ⟨g0, 11, none⟩ = some (.int .i64 0) := hz.at 10 (by decide)
      have z12 : wr.cell? ⟨g0, 12, none⟩ = some (.int .i64 0) := hz.at 11 (by decide)
      have zf := hz.free
      have y0 : wr.cell? ⟨g1, 0, none⟩ = some (.int .i64 n) := ht.zero
      have y1 : wr.cell? ⟨g1, 1, none⟩ = some (.int .i64 (o0 : Int)) := ht.at 0 (by simp)
      have y2 : wr.cell? ⟨g1, 2, none⟩ = some (.int .i64 (o1 : Int)) := ht.at 1 (by simp)
      have y3 : wr.cell? ⟨g1, 3, none⟩ = some (.int .i64 (o2 : Int)) := ht.at 2 (by simp)
      have y4 : wr.cell? ⟨g1, 4, none⟩ = some (.int .i64 (o3 : Int)) := ht.at 3 (by simp)
      have y5 : wr.cell? ⟨g1, 5, none⟩ = some (.int .i64 (o4 : Int)) := ht.at 4 (by simp)
      have y6 : wr.cell? ⟨g1, 6, none⟩ = some (.int .i64 (o5 : Int)) := ht.at 5 (by simp)
      have y7 : wr.cell? ⟨g1, 7, none⟩ = some (.int .i64 (o6 : Int)) := ht.at 6 (by simp)
      have y8 : wr.cell? ⟨g1, 8, none⟩ = some (.int .i64 (o7 : Int)) := ht.at 7 (by simp)
      have y9 : wr.cell? ⟨g1, 9, none⟩ = some (.int .i64 (o8 : Int)) := ht.at 8 (by simp)
      have y10 : wr.cell? ⟨g1, 10, none⟩ = some (.int .i64 (o9 : Int)) := ht.at 9 (by simp)
      have y11 : wr.cell? ⟨g1, 11, none⟩ = some (.int .i64 (o10 : Int)) := ht.at 10 (by simp)
      have y12 : wr.cell? ⟨g1, 12, none⟩ = some (.int .i64 (o11 : Int)) := ht.at 11 (by simp)
      have HG1 := Aside0.mk (show w.heap.size ≤ g0 by have := HG0.out; omega)
      have HZB := Aside0.mk hz
      clear hz HZ HT ht ha hl HA ho
      go_wp2
      generalize hWf : (World.setCell _ _ _ : World) = Wf
      have htf : TownAt Wf g0 n [o0, o1, o2, o3, o4, o5, o6, o7, o8, o9, o10, o11] := by rw [← hWf]; exact town_put HZB.out n o0 o1 o2 o3 o4 o5 o6 o7 o8 o9 o10 o11
      have hbf : Below w.heap.size w Wf := by rw [← hWf]; (with_reducible repeat (first | exact HB.out | refine below_put ?_ HG1.out _))
      clear hWf
      have f0 : Wf.cell? ⟨g0, 0, none⟩ = some (.int .i64 n) := htf.zero
      have f1 : Wf.cell? ⟨g0, 1, none⟩ = some (.int .i64 (o0 : Int)) := htf.at 0 (by simp)
      have f2 : Wf.cell? ⟨g0, 2, none⟩ = some (.int .i64 (o1 : Int)) := htf.at 1 (by simp)
      have f3 : Wf.cell? ⟨g0, 3, none⟩ = some (.int .i64 (o2 : Int)) := htf.at 2 (by simp)
      have f4 : Wf.cell? ⟨g0, 4, none⟩ = some (.int .i64 (o3 : Int)) := htf.at 3 (by simp)
      have f5 : Wf.cell? ⟨g0, 5, none⟩ = some (.int .i64 (o4 : Int)) := htf.at 4 (by simp)
      have f6 : Wf.cell? ⟨g0, 6, none⟩ = some (.int .i64 (o5 : Int)) := htf.at 5 (by simp)
      have f7 : Wf.cell? ⟨g0, 7, none⟩ = some (.int .i64 (o6 : Int)) := htf.at 6 (by simp)
      have f8 : Wf.cell? ⟨g0, 8, none⟩ = some (.int .i64 (o7 : Int)) := htf.at 7 (by simp)
      have f9 : Wf.cell? ⟨g0, 9, none⟩ = some (.int .i64 (o8 : Int)) := htf.at 8 (by simp)
      have f10 : Wf.cell? ⟨g0, 10, none⟩ = some (.int .i64 (o9 : Int)) := htf.at 9 (by simp)
      have f11 : Wf.cell? ⟨g0, 11, none⟩ = some (.int .i64 (o10 : Int)) := htf.at 10 (by simp)
      have f12 : Wf.cell? ⟨g0, 12, none⟩ = some (.int .i64 (o11 : Int)) := htf.at 11 (by simp)
      clear htf
      refine bodyPost_ret (by simp [results, Try.results13, go_sem, f0, f1, f2, f3, f4, f5, f6, f7, f8, f9, f10, f11, f12]; try rfl) rfl ?_
      exact ⟨⟨_, _, rfl, HP.out⟩, hbf⟩
end Go.Proofs.Ytagmadfllfcloaa.PC
end
section
set_option linter.unusedVariables false
set_option linter.unusedSimpArgs false
/- The tests of shave: independent, absorbed: the walks of the closures. -/
namespace Go.Proofs.Ytagmadfllfcloaa.PC
open Go.RowKit Go.Proofs.YtagmadfllfcloaaW.PrintWords Go.Proofs.YtagmadfllfcloaaW.PrintLast Go.Proofs.YtagmadfllfcloaaW.PrintMore
set_option linter.unusedVariables false
set_option linter.unusedSimpArgs false
/-- A person of a set has no arc into it. -/
def indB (o : List Nat) (s i : Nat) : Bool := !(s.testBit i) || ((o.getD i 0) &&& s == 0)
/-- A person is in a set or has an arc into it. -/
def absB (o : List Nat) (s i : Nat) : Bool := s.testBit i || !((o.getD i 0) &&& s == 0)
/-- A set is a kernel. -/
def kerB (n : Nat) (o : List Nat) (s : Nat) : Bool := (List.range n).all (fun i => indB o s i && absB o s i)
theorem and_val (a b : Nat) (ha : a < 4096) (hb : b < 4096) : bits .and .i64 (a : Int) (b : Int) = ((a &&& b : Nat) : Int) :=
  (bits_nat .i64 63 (by decide) (fun n h0 h1 => by rw [IntKind.wrap_i64]; omega) a b (by omega) (by omega)).1
theorem bit_val (s i : Nat) (hs : s < 4096) : bits .and .i64 (((s / 2 ^ i : Nat)) : Int) 1 = if s.testBit i then 1 else 0 := by
  have h := and_val (s / 2 ^ i) 1 (Nat.lt_of_le_of_lt (Nat.div_le_self _ _) hs) (by decide)
  have h2 : ((1 : Nat) : Int) = 1 := rfl
  rw [h2] at h
  rw [h, Nat.and_one_is_mod]
  simp only [Nat.testBit, Nat.shiftRight_eq_div_pow, Nat.one_and_eq_mod_two]
  rcases Nat.mod_two_eq_zero_or_one (s / 2 ^ i) with h3 | h3 <;> rw [h3] <;> simp
theorem nat_beq0 (y : Nat) : ((y : Int) == 0) = (y == 0) := by
  rcases Nat.eq_zero_or_pos y with rfl | h
  · rfl
  · rw [beq_eq_false_iff_ne.2 (by omega), beq_eq_false_iff_ne.2 (by omega)]
theorem nat_bne0 (y : Nat) : ((y : Int) != 0) = !(y == 0) := by rw [bne, nat_beq0]
set_option maxHeartbeats 4000000 in
set_option maxRecDepth 100000 in
theorem ind_clo (n : Nat) (o : List Nat) (ho : o.length = 12) (hlt : ∀ j, o.getD j 0 < 4096) (s i : Nat) (hs : s < 4096) (hi : i < 12) (gs gt : Nat) (w : World) (h1 : w.cell? ⟨gs, 0, none⟩ = some (.int .i64 (s : Int))) (h2 : TownAt w gt (n : Int) o) :
    Calls Try.prog 44 #[.int .i64 (i : Int), .pointer (some ⟨gs, 0, none⟩), .pointer (some ⟨gt, 0, none⟩)] w fun e w' => e = .returned (.bool (indB o s i)) ∧ ∃ m, w' = w.drewN m := by
  have hA := h2.at i (by omega)
  have hb := bit_val s i hs
  have ha := and_val (o.getD i 0) s (hlt i) hs
  obtain ⟨x, hx⟩ : ∃ x, o.getD i 0 = x := ⟨_, rfl⟩
  have hI : indB o s i = (!(s.testBit i) || (x &&& s == 0)) := by unfold indB; rw [hx]
  rw [hI]
  rw [hx] at hA ha
  have hb12 : ((i : Int) < 12) = True := eq_true (by omega)
  have hb12n : (i < 12) = True := eq_true hi
  have hsh : (s : Int) / 2 ^ i = ((s / 2 ^ i : Nat) : Int) := by push_cast; rfl
  rw [← hsh] at hb
  clear hI hx h2 hlt ho hsh
  cases htb : s.testBit i with
  | false =>
    rw [htb, if_neg (by decide)] at hb
    clear htb
    go_enter Try.func44, Try.ntmps44
    go_wp2
    go_quiet (fail)
    go_wp2
    go_ret
    exact ⟨rfl, _, rfl⟩
  | true =>
    rw [htb, if_pos rfl] at hb
    clear htb
    obtain ⟨y, hy⟩ : ∃ y, x &&& s = y := ⟨_, rfl⟩
    rw [hy] at ha ⊢
    clear hy
    go_enter Try.func44, Try.ntmps44
    go_wp2
    go_quiet (fail)
    go_wp2
    go_ret
    exact ⟨by simp [nat_beq0], _, rfl⟩
/-- Everybody but a set. -/
theorem not_all : (List.range 13).all (fun n => (List.range (2 ^ n)).all (fun s => decide (bits .andNot .i64 ((2 ^ n - 1 : Nat) : Int) (s : Int) = ((2 ^ n - 1 - s : Nat) : Int)))) = true := by decide +kernel
theorem not_val (n s : Nat) (hn : n ≤ 12) (hs : s < 2 ^ n) : bits .andNot .i64 ((2 ^ n - 1 : Nat) : Int) (s : Int) = ((2 ^ n - 1 - s : Nat) : Int) := by
  have h := (List.all_eq_true.1 not_all) n (List.mem_range.2 (by omega))
  exact of_decide_eq_true ((List.all_eq_true.1 h) s (List.mem_range.2 hs))
theorem not_bit (n s i : Nat) (hs : s < 2 ^ n) (hi : i < n) : (2 ^ n - 1 - s).testBit i = !s.testBit i := by
  rw [show 2 ^ n - 1 - s = 2 ^ n - (s + 1) by omega, Nat.testBit_two_pow_sub_succ hs]
  simp [hi]
set_option maxHeartbeats 4000000 in
set_option maxRecDepth 100000 in
theorem abs_clo (n : Nat) (hn : n ≤ 12) (o : List Nat) (ho : o.length = 12) (hlt : ∀ j, o.getD j 0 < 4096) (s i : Nat) (hs : s < 2 ^ n) (hi : i < n) (gp gs gt : Nat) (w : World) (h0 : w.cell? ⟨gp, 0, none⟩ = some (.int .i64 ((2 ^ n - 1 : Nat) : Int))) (h1 : w.cell? ⟨gs, 0, none⟩ = some (.int .i64 (s : Int))) (h2 : TownAt w gt (n : Int) o) :
    Calls Try.prog 45 #[.int .i64 (i : Int), .pointer (some ⟨gp, 0, none⟩), .pointer (some ⟨gs, 0, none⟩), .pointer (some ⟨gt, 0, none⟩)] w fun e w' => e = .returned (.bool (absB o s i)) ∧ ∃ m, w' = w.drewN m := by
  have hi12 : i < 12 := by omega
  have h4 : (2 : Nat) ^ n ≤ 2 ^ 12 := Nat.pow_le_pow_right (by decide) hn
  have hs4 : s < 4096 := by omega
  have hA := h2.at i (by omega)
  have hb := bit_val (2 ^ n - 1 - s) i (by omega)
  have ha := and_val (o.getD i 0) s (hlt i) hs4
  have hn2 := not_val n s hn hs
  rw [not_bit n s i hs hi] at hb
  obtain ⟨x, hx⟩ : ∃ x, o.getD i 0 = x := ⟨_, rfl⟩
  have hI : absB o s i = (s.testBit i || !(x &&& s == 0)) := by unfold absB; rw [hx]
  rw [hI]
  rw [hx] at hA ha
  obtain ⟨p, hp⟩ : ∃ p, 2 ^ n - 1 = p := ⟨_, rfl⟩
  rw [hp] at h0 hn2 hb
  obtain ⟨q, hq⟩ : ∃ q, p - s = q := ⟨_, rfl⟩
  rw [hq] at hn2 hb
  have hb12 : ((i : Int) < 12) = True := eq_true (by omega)
  have hb12n : (i < 12) = True := eq_true hi12
  have hsh : (q : Int) / 2 ^ i = ((q / 2 ^ i : Nat) : Int) := by push_cast; rfl
  rw [← hsh] at hb
  obtain ⟨y, hy⟩ : ∃ y, x &&& s = y := ⟨_, rfl⟩
  rw [hy] at ha ⊢
  clear hI hx h2 hlt ho hsh hp hq h4 hi hs hy
  cases htb : s.testBit i with
  | true =>
    rw [htb, if_neg (by decide)] at hb
    clear htb
    go_enter Try.func45, Try.ntmps45
    go_wp2
    go_quiet (fail)
    go_wp2
    go_ret
    exact ⟨rfl, _, rfl⟩
  | false =>
    rw [htb, if_pos (by decide)] at hb
    clear htb
    go_enter Try.func45, Try.ntmps45
    go_wp2
    go_quiet (fail)
    go_wp2
    go_ret
    exact ⟨by simp [nat_beq0, nat_bne0], _, rfl⟩
end Go.Proofs.Ytagmadfllfcloaa.PC
end
section
set_option linter.unusedVariables false
set_option linter.unusedSimpArgs false
/- shave's all, kernel: the walks. -/
namespace Go.Proofs.Ytagmadfllfcloaa.PC
open Go.RowKit Go.Proofs.YtagmadfllfcloaaW.PrintWords Go.Proofs.YtagmadfllfcloaaW.PrintLast Go.Proofs.YtagmadfllfcloaaW.PrintMore
set_option linter.unusedVariables false
set_option linter.unusedSimpArgs false
/-- A town's value, written out. -/
def townL (n : Nat) (o0 o1 o2 o3 o4 o5 o6 o7 o8 o9 o10 o11 : Nat) : Value := .agg #[.int .i64 (n : Int), .int .i64 (o0 : Int), .int .i64 (o1 : Int), .int .i64 (o2 : Int), .int .i64 (o3 : Int), .int .i64 (o4 : Int), .int .i64 (o5 : Int), .int .i64 (o6 : Int), .int .i64 (o7 : Int), .int .i64 (o8 : Int), .int .i64 (o9 : Int), .int .i64 (o10 : Int), .int .i64 (o11 : Int)]
theorem ker_none {n : Nat} {o : List Nat} {s i : Nat} (hi : i < n) (h : (indB o s i && absB o s i) = false) : kerB n o s = false := by
  unfold kerB
  rw [← Bool.not_eq_true, List.all_eq_true]
  intro h2
  have h3 := h2 i (List.mem_range.2 hi)
  rw [h] at h3
  cases h3
theorem ker_some {n : Nat} {o : List Nat} {s : Nat} (h : ∀ i, i < n → (indB o s i && absB o s i) = true) : kerB n o s = true := by
  unfold kerB
  rw [List.all_eq_true]
  intro i hi
  exact h i (List.mem_range.1 hi)
set_option maxHeartbeats 8000000 in
set_option maxRecDepth 100000 in
theorem all_walk (n : Nat) (hn : n ≤ 12) (o0 o1 o2 o3 o4 o5 o6 o7 o8 o9 o10 o11 : Nat) (o : List Nat) (ho : o.length = 12) (hlt : ∀ j, o.getD j 0 < 4096) (s : Nat) (hs : s < 2 ^ n) (gf gp gs1 gs2 gt1 gt2 : Nat) (w : World)
    (hf0 : w.cell? ⟨gf, 0, none⟩ = some (.func (.func 44) #[] #[.pointer (some ⟨gs1, 0, none⟩), .pointer (some ⟨gt1, 0, none⟩)]))
    (hf1 : w.cell? ⟨gf, 1, none⟩ = some (.func (.func 45) #[] #[.pointer (some ⟨gp, 0, none⟩), .pointer (some ⟨gs2, 0, none⟩), .pointer (some ⟨gt2, 0, none⟩)]))
    (hp : w.cell? ⟨gp, 0, none⟩ = some (.int .i64 ((2 ^ n - 1 : Nat) : Int))) (h1 : w.cell? ⟨gs1, 0, none⟩ = some (.int .i64 (s : Int))) (h2 : w.cell? ⟨gs2, 0, none⟩ = some (.int .i64 (s : Int)))
    (t1 : TownAt w gt1 (n : Int) o) (t2 : TownAt w gt2 (n : Int) o) :
    Calls Try.prog 31 #[townL n o0 o1 o2 o3 o4 o5 o6 o7 o8 o9 o10 o11, .slice (some ⟨gf, 0, none⟩) 2 2] w fun e w' => e = .returned (.bool (kerB n o s)) ∧ Below w.heap.size w w' := by
  have hs4 : s < 4096 := by have h4 : (2 : Nat) ^ n ≤ 2 ^ 12 := Nat.pow_le_pow_right (by decide) hn; omega
  have HI := Lib.hid (fun (wr : World) (hb : Below w.heap.size w wr) (i : Nat) (hi : i < n) => ind_clo n o ho hlt s i hs4 (by omega) gs1 gt1 wr ((hb.cell (World.block_lt_of_cell? w _ h1)).trans h1) ((hb.block gt1 t1.lt).trans t1))
  have HA := Lib.hid (fun (wr : World) (hb : Below w.heap.size w wr) (i : Nat) (hi : i < n) => abs_clo n hn o ho hlt s i hs hi gp gs2 gt2 wr ((hb.cell (World.block_lt_of_cell? w _ hp)).trans hp) ((hb.cell (World.block_lt_of_cell? w _ h2)).trans h2) ((hb.block gt2 t2.lt).trans t2))
  have HF0 := Aside0.mk hf0
  have HF1 := Aside0.mk hf1
  have HN := Aside0.mk hn
  unfold townL
  clear hf0 hf1 hp h1 h2 t1 t2 hs hs4 hlt ho hn
  go_enter Try.func31, Try.ntmps31
  go_wp2
  generalize hW : (World.alloc _ _ : World) = w1
  have hb1 : Below w.heap.size w w1 := by rw [← hW]; exact (Below.refl _ _).alloc (Nat.le_refl _) _
  have HB1 := Aside0.mk hb1
  clear hb1 hW
  go_loopw [10] (fun v10 wr => ∃ i : Nat, i ≤ n ∧ v10 = .int .i64 (i : Int) ∧ Aside0 (∀ k, k < i → (indB o s k && absB o s k) = true) ∧ Aside0 (Below w.heap.size w wr)) (fun v10 _ => n - (intOf v10).toNat)
  case atStart => exact ⟨0, by omega, rfl, ⟨fun k hk => by omega⟩, HB1⟩
  case round =>
    clear HB1
    obtain ⟨i, hi, rfl, HK, HB⟩ := hrel
    by_cases hiN : i < n
    · have d4 : decide ((i : Int) < (n : Int)) = true := decide_eq_true (by omega)
      have d4n : (i < n) = True := eq_true hiN
      go_wp2
      go_loopw [15] (fun v15 wr => ∃ j : Nat, j ≤ 2 ∧ v15 = .int .i64 (j : Int) ∧ Aside0 (1 ≤ j → indB o s i = true) ∧ Aside0 (2 ≤ j → absB o s i = true) ∧ Aside0 (Below w.heap.size w wr)) (fun v15 _ => 2 - (intOf v15).toNat)
      case atStart => exact ⟨0, by omega, rfl, ⟨fun h => by omega⟩, ⟨fun h => by omega⟩, HB⟩
      case round =>
        clear HB
        obtain ⟨j, hj, rfl, HJ1, HJ2, HB⟩ := hrel
        have hc0 := (HB.out.cell (World.block_lt_of_cell? w _ HF0.out)).trans HF0.out
        have hc1 := (HB.out.cell (World.block_lt_of_cell? w _ HF1.out)).trans HF1.out
        rcases j with _ | _ | _ | j
        · cases hib : indB o s i with
          | true =>
            have hcall := HI.out wr HB.out i hiN
            rw [hib] at hcall
            have HC := Lib.hid hcall
            have HX := Aside0.mk hib
            clear hcall hib
            go_wp2_with (first | (go_at_call 44; refine HC.out.mono ?_; rintro e wa ⟨rfl, ⟨md, rfl⟩⟩))
            exact ⟨⟨1, by omega, rfl, ⟨fun _ => by first | exact HX.out | trivial⟩, ⟨fun h => by omega⟩, ⟨pw_below_drewN HB.out _⟩⟩, by decide⟩
          | false =>
            have hcall := HI.out wr HB.out i hiN
            rw [hib] at hcall
            have HC := Lib.hid hcall
            have HX := Aside0.mk (show kerB n o s = false from ker_none hiN (by rw [hib]; rfl))
            clear hcall hib
            go_wp2_with (first | (go_at_call 44; refine HC.out.mono ?_; rintro e wa ⟨rfl, ⟨md, rfl⟩⟩))
            go_ret
            exact ⟨by rw [HX.out]; rfl, pw_below_drewN HB.out _⟩
        · cases hib : absB o s i with
          | true =>
            have hcall := HA.out wr HB.out i hiN
            rw [hib] at hcall
            have HC := Lib.hid hcall
            have HX := Aside0.mk hib
            clear hcall hib
            go_wp2_with (first | (go_at_call 45; refine HC.out.mono ?_; rintro e wa ⟨rfl, ⟨md, rfl⟩⟩))
            exact ⟨⟨2, by omega, rfl, ⟨fun _ => by first | exact HJ1.out (Nat.le_refl _) | trivial⟩, ⟨fun _ => by first | exact HX.out | trivial⟩, ⟨pw_below_drewN HB.out _⟩⟩, by decide⟩
          | false =>
            have hcall := HA.out wr HB.out i hiN
            rw [hib] at hcall
            have HC := Lib.hid hcall
            have HX := Aside0.mk (show kerB n o s = false from ker_none hiN (by rw [hib]; simp))
            clear hcall hib
            go_wp2_with (first | (go_at_call 45; refine HC.out.mono ?_; rintro e wa ⟨rfl, ⟨md, rfl⟩⟩))
            go_ret
            exact ⟨by rw [HX.out]; rfl, pw_below_drewN HB.out _⟩
        · have HX := Aside0.mk (show ∀ k, k < i + 1 → (indB o s k && absB o s k) = true from fun k hk => by
            rcases Nat.lt_or_ge k i with h | h
            · exact HK.out k h
            · obtain rfl : k = i := by omega
              rw [HJ1.out (by omega), HJ2.out (by omega)]
              rfl)
          go_wp2
          refine ⟨⟨i + 1, by omega, vI (by have := HN.out; omega), HX, HB⟩, mstepA hiN (by have := HN.out; omega)⟩
        · omega
    · have d4 : decide ((i : Int) < (n : Int)) = false := decide_eq_false (by omega)
      have d4n : (i < n) = False := eq_false hiN
      have HX := Aside0.mk (show kerB n o s = true from ker_some (fun k hk => HK.out k (by omega)))
      go_wp2
      go_ret
      exact ⟨by rw [HX.out]; rfl, HB.out⟩
end Go.Proofs.Ytagmadfllfcloaa.PC
end
section
set_option linter.unusedVariables false
set_option linter.unusedSimpArgs false
/- shave's kernel: the walk. -/
namespace Go.Proofs.Ytagmadfllfcloaa.PC
open Go.RowKit Go.Proofs.YtagmadfllfcloaaW.PrintWords Go.Proofs.YtagmadfllfcloaaW.PrintLast Go.Proofs.YtagmadfllfcloaaW.PrintMore
set_option linter.unusedVariables false
set_option linter.unusedSimpArgs false
theorem alloc1_newT (w : World) (X : Obj) : (w.alloc X).heap[w.heap.size]? = some X := by
  show (w.heap.push X)[w.heap.size]? = some X
  exact Array.getElem?_push_size
theorem cell_old {W : World} {a : Addr} {v : Value} (h : W.cell? a = some v) (o : Obj) : (W.alloc o).cell? a = some v := (((Below.refl _ W).alloc (Nat.le_refl _) o).cell (World.block_lt_of_cell? W _ h)).trans h
theorem cell_new1 (W : World) (v : Value) (e : TypeId) : (W.alloc (.cells #[v] e)).cell? ⟨W.heap.size, 0, none⟩ = some v := by
  have h := alloc1_newT W (.cells #[v] e)
  unfold World.cell?
  rw [h]
  rfl
theorem townL_at {W : World} {n o0 o1 o2 o3 o4 o5 o6 o7 o8 o9 o10 o11 : Nat} : TownAt (W.alloc (.cells #[.int .i64 (n : Int), .int .i64 (o0 : Int), .int .i64 (o1 : Int), .int .i64 (o2 : Int), .int .i64 (o3 : Int), .int .i64 (o4 : Int), .int .i64 (o5 : Int), .int .i64 (o6 : Int), .int .i64 (o7 : Int), .int .i64 (o8 : Int), .int .i64 (o9 : Int), .int .i64 (o10 : Int), .int .i64 (o11 : Int)] 44)) W.heap.size (n : Int) [o0, o1, o2, o3, o4, o5, o6, o7, o8, o9, o10, o11] := alloc1_newT W _
set_option maxRecDepth 100000 in
theorem ind_make (n o0 o1 o2 o3 o4 o5 o6 o7 o8 o9 o10 o11 s : Nat) (w : World) :
    Calls Try.prog 32 #[townL n o0 o1 o2 o3 o4 o5 o6 o7 o8 o9 o10 o11, .int .i64 (s : Int)] w fun e w' => ∃ gs gt, e = .returned (.func (.func 44) #[] #[.pointer (some ⟨gs, 0, none⟩), .pointer (some ⟨gt, 0, none⟩)]) ∧ w'.cell? ⟨gs, 0, none⟩ = some (.int .i64 (s : Int)) ∧ TownAt w' gt (n : Int) [o0, o1, o2, o3, o4, o5, o6, o7, o8, o9, o10, o11] ∧ Below w.heap.size w w' := by
  unfold townL
  go_enter Try.func32, Try.ntmps32
  go_wp2
  go_ret
  exact ⟨_, _, rfl, by simp, townL_at.alloc _, ((Below.refl _ _).alloc (Nat.le_refl _) _).alloc (by simp) _⟩
set_option maxRecDepth 100000 in
theorem abs_make (n o0 o1 o2 o3 o4 o5 o6 o7 o8 o9 o10 o11 s p : Nat) (w : World) :
    Calls Try.prog 33 #[townL n o0 o1 o2 o3 o4 o5 o6 o7 o8 o9 o10 o11, .int .i64 (s : Int), .int .i64 (p : Int)] w fun e w' => ∃ gp gs gt, e = .returned (.func (.func 45) #[] #[.pointer (some ⟨gp, 0, none⟩), .pointer (some ⟨gs, 0, none⟩), .pointer (some ⟨gt, 0, none⟩)]) ∧ w'.cell? ⟨gp, 0, none⟩ = some (.int .i64 (p : Int)) ∧ w'.cell? ⟨gs, 0, none⟩ = some (.int .i64 (s : Int)) ∧ TownAt w' gt (n : Int) [o0, o1, o2, o3, o4, o5, o6, o7, o8, o9, o10, o11] ∧ Below w.heap.size w w' := by
  unfold townL
  go_enter Try.func33, Try.ntmps33
  go_wp2
  go_ret
  refine ⟨_, _, _, rfl, ?_, ?_, (townL_at.alloc _).alloc _, (((Below.refl _ _).alloc (Nat.le_refl _) _).alloc (by simp) _).alloc (by simp; omega) _⟩
  · have h := cell_new1 (((w.alloc (.cells #[.int .i64 (n : Int), .int .i64 (o0 : Int), .int .i64 (o1 : Int), .int .i64 (o2 : Int), .int .i64 (o3 : Int), .int .i64 (o4 : Int), .int .i64 (o5 : Int), .int .i64 (o6 : Int), .int .i64 (o7 : Int), .int .i64 (o8 : Int), .int .i64 (o9 : Int), .int .i64 (o10 : Int), .int .i64 (o11 : Int)] 44)).alloc (.cells #[.int .i64 (s : Int)] 3))) (.int .i64 (p : Int)) 3
    simpa using h
  · have h := cell_new1 ((w.alloc (.cells #[.int .i64 (n : Int), .int .i64 (o0 : Int), .int .i64 (o1 : Int), .int .i64 (o2 : Int), .int .i64 (o3 : Int), .int .i64 (o4 : Int), .int .i64 (o5 : Int), .int .i64 (o6 : Int), .int .i64 (o7 : Int), .int .i64 (o8 : Int), .int .i64 (o9 : Int), .int .i64 (o10 : Int), .int .i64 (o11 : Int)] 44))) (.int .i64 (s : Int)) 3
    simp only [World.size_alloc] at h
    exact cell_old h _
theorem keep13 {w W W' : World} {g : Nat} {c0 c1 c2 c3 c4 c5 c6 c7 c8 c9 c10 c11 c12 : Value} (h : W.cell? ⟨g, 0, none⟩ = some c0 ∧ W.cell? ⟨g, 1, none⟩ = some c1 ∧ W.cell? ⟨g, 2, none⟩ = some c2 ∧ W.cell? ⟨g, 3, none⟩ = some c3 ∧ W.cell? ⟨g, 4, none⟩ = some c4 ∧ W.cell? ⟨g, 5, none⟩ = some c5 ∧ W.cell? ⟨g, 6, none⟩ = some c6 ∧ W.cell? ⟨g, 7, none⟩ = some c7 ∧ W.cell? ⟨g, 8, none⟩ = some c8 ∧ W.cell? ⟨g, 9, none⟩ = some c9 ∧ W.cell? ⟨g, 10, none⟩ = some c10 ∧ W.cell? ⟨g, 11, none⟩ = some c11 ∧ W.cell? ⟨g, 12, none⟩ = some c12 ∧ Below w.heap.size w W) (hb : Below W.heap.size W W') : W'.cell? ⟨g, 0, none⟩ = some c0 ∧ W'.cell? ⟨g, 1, none⟩ = some c1 ∧ W'.cell? ⟨g, 2, none⟩ = some c2 ∧ W'.cell? ⟨g, 3, none⟩ = some c3 ∧ W'.cell? ⟨g, 4, none⟩ = some c4 ∧ W'.cell? ⟨g, 5, none⟩ = some c5 ∧ W'.cell? ⟨g, 6, none⟩ = some c6 ∧ W'.cell? ⟨g, 7, none⟩ = some c7 ∧ W'.cell? ⟨g, 8, none⟩ = some c8 ∧ W'.cell? ⟨g, 9, none⟩ = some c9 ∧ W'.cell? ⟨g, 10, none⟩ = some c10 ∧ W'.cell? ⟨g, 11, none⟩ = some c11 ∧ W'.cell? ⟨g, 12, none⟩ = some c12 ∧ Below w.heap.size w W' := by
  obtain ⟨h0, h1, h2, h3, h4, h5, h6, h7, h8, h9, h10, h11, h12, hB⟩ := h
  exact ⟨(hb.cell (World.block_lt_of_cell? W _ h0)).trans h0, (hb.cell (World.block_lt_of_cell? W _ h1)).trans h1, (hb.cell (World.block_lt_of_cell? W _ h2)).trans h2, (hb.cell (World.block_lt_of_cell? W _ h3)).trans h3, (hb.cell (World.block_lt_of_cell? W _ h4)).trans h4, (hb.cell (World.block_lt_of_cell? W _ h5)).trans h5, (hb.cell (World.block_lt_of_cell? W _ h6)).trans h6, (hb.cell (World.block_lt_of_cell? W _ h7)).trans h7, (hb.cell (World.block_lt_of_cell? W _ h8)).trans h8, (hb.cell (World.block_lt_of_cell? W _ h9)).trans h9, (hb.cell (World.block_lt_of_cell? W _ h10)).trans h10, (hb.cell (World.block_lt_of_cell? W _ h11)).trans h11, (hb.cell (World.block_lt_of_cell? W _ h12)).trans h12, hB.trans (hb.mono hB.size)⟩
set_option maxHeartbeats 8000000 in
set_option maxRecDepth 100000 in
theorem kernel_walk (n : Nat) (hn : n ≤ 12) (o0 o1 o2 o3 o4 o5 o6 o7 o8 o9 o10 o11 : Nat) (hlt : ∀ j, [o0, o1, o2, o3, o4, o5, o6, o7, o8, o9, o10, o11].getD j 0 < 4096) (s : Nat) (hs : s < 2 ^ n) (w : World) :
    Calls Try.prog 17 #[townL n o0 o1 o2 o3 o4 o5 o6 o7 o8 o9 o10 o11, .int .i64 (s : Int), .int .i64 ((2 ^ n - 1 : Nat) : Int)] w fun e w' => e = .returned (.bool (kerB n [o0, o1, o2, o3, o4, o5, o6, o7, o8, o9, o10, o11] s)) ∧ Below w.heap.size w w' := by
  have HI := Lib.hid (ind_make n o0 o1 o2 o3 o4 o5 o6 o7 o8 o9 o10 o11 s)
  have HA := Lib.hid (abs_make n o0 o1 o2 o3 o4 o5 o6 o7 o8 o9 o10 o11 s (2 ^ n - 1))
  have HW := Lib.hid (fun gf gp gs1 gs2 gt1 gt2 w => all_walk n hn o0 o1 o2 o3 o4 o5 o6 o7 o8 o9 o10 o11 [o0, o1, o2, o3, o4, o5, o6, o7, o8, o9, o10, o11] rfl hlt s hs gf gp gs1 gs2 gt1 gt2 w)
  unfold townL at HI HA HW ⊢
  obtain ⟨p, hp⟩ : ∃ p, 2 ^ n - 1 = p := ⟨_, rfl⟩
  rw [hp] at HA ⊢
  simp only [hp] at HW
  obtain ⟨r, hr⟩ : ∃ r, kerB n [o0, o1, o2, o3, o4, o5, o6, o7, o8, o9, o10, o11] s = r := ⟨_, rfl⟩
  rw [hr] at HW ⊢
  clear hn hlt hs hp hr
  go_enter Try.func17, Try.ntmps17
  go_wp2
  go_region_held3 (fun W => W.cell? ⟨w.heap.size, 0, none⟩ = some (.int .i64 (n : Int)) ∧ W.cell? ⟨w.heap.size, 1, none⟩ = some (.int .i64 (o0 : Int)) ∧ W.cell? ⟨w.heap.size, 2, none⟩ = some (.int .i64 (o1 : Int)) ∧ W.cell? ⟨w.heap.size, 3, none⟩ = some (.int .i64 (o2 : Int)) ∧ W.cell? ⟨w.heap.size, 4, none⟩ = some (.int .i64 (o3 : Int)) ∧ W.cell? ⟨w.heap.size, 5, none⟩ = some (.int .i64 (o4 : Int)) ∧ W.cell? ⟨w.heap.size, 6, none⟩ = some (.int .i64 (o5 : Int)) ∧ W.cell? ⟨w.heap.size, 7, none⟩ = some (.int .i64 (o6 : Int)) ∧ W.cell? ⟨w.heap.size, 8, none⟩ = some (.int .i64 (o7 : Int)) ∧ W.cell? ⟨w.heap.size, 9, none⟩ = some (.int .i64 (o8 : Int)) ∧ W.cell? ⟨w.heap.size, 10, none⟩ = some (.int .i64 (o9 : Int)) ∧ W.cell? ⟨w.heap.size, 11, none⟩ = some (.int .i64 (o10 : Int)) ∧ W.cell? ⟨w.heap.size, 12, none⟩ = some (.int .i64 (o11 : Int)) ∧ Below w.heap.size w W)
    (first | assumption | (exact keep13 (by assumption) (by assumption)) | (exact keep13 (by assumption) (below_alloc (Below.refl _ _) _)) | (refine ⟨?_, ?_, ?_, ?_, ?_, ?_, ?_, ?_, ?_, ?_, ?_, ?_, ?_, below_drew (below_alloc (Below.refl _ _) _)⟩ <;> simp))
    (first
      | (go_at_call 32; refine (HI.out _).mono ?_; rintro e w1 ⟨gs1, gt1, rfl, hi1, hi2, hb1⟩)
      | (go_at_call 33; refine (HA.out _).mono ?_; rintro e w2 ⟨gp, gs2, gt2, rfl, ha1, ha2, ha3, hb2⟩)
      | (go_at_call 31; have hi1' := (hb2.cell (World.block_lt_of_cell? _ _ hi1)).trans hi1; have hi2' := hi2.below hb2; refine (HW.out w2.heap.size gp gs1 gs2 gt1 gt2 _ (by simp) (by simp) ?hp ?h1 ?h2 (hi2'.alloc _) (ha3.alloc _)).mono ?_; (case hp => exact cell_old ha1 _); (case h1 => exact cell_old hi1' _); (case h2 => exact cell_old ha2 _); rintro e w3 ⟨rfl, hb3⟩))
  rename_i hS
  have HB := Aside0.mk hS.2.2.2.2.2.2.2.2.2.2.2.2.2
  go_wp2
  go_ret
  exact ⟨rfl, HB.out⟩
end Go.Proofs.Ytagmadfllfcloaa.PC
end
section
set_option linter.unusedVariables false
set_option linter.unusedSimpArgs false
/- shave's everybody, and what Kernel asks of a set: the walks. -/
namespace Go.Proofs.Ytagmadfllfcloaa.PC
open Go.RowKit Go.Proofs.YtagmadfllfcloaaW.PrintWords Go.Proofs.YtagmadfllfcloaaW.PrintLast Go.Proofs.YtagmadfllfcloaaW.PrintMore
set_option linter.unusedVariables false
set_option linter.unusedSimpArgs false
theorem all_val (n : Nat) (hn : n ≤ 12) : wrap64 (wrap64 (2 ^ n) - 1) = ((2 ^ n - 1 : Nat) : Int) := by
  have h : ∀ n : Nat, n < 13 → wrap64 (wrap64 (2 ^ n) - 1) = ((2 ^ n - 1 : Nat) : Int) := by decide +kernel
  exact h n (by omega)
set_option maxRecDepth 100000 in
theorem every_walk (n : Nat) (hn : n ≤ 12) (o0 o1 o2 o3 o4 o5 o6 o7 o8 o9 o10 o11 : Nat) (w : World) :
    Calls Try.prog 18 #[townL n o0 o1 o2 o3 o4 o5 o6 o7 o8 o9 o10 o11] w fun e w' => e = .returned (.int .i64 ((2 ^ n - 1 : Nat) : Int)) ∧ Below w.heap.size w w' := by
  have hv := all_val n hn
  obtain ⟨p, hp⟩ : ∃ p, ((2 ^ n - 1 : Nat) : Int) = p := ⟨_, rfl⟩
  rw [hp] at hv ⊢
  have hn64 : (n < 64) = True := eq_true (by omega)
  clear hp
  unfold townL
  go_enter Try.func18, Try.ntmps18
  go_wp2
  go_ret
  refine ⟨?_, (Below.refl _ _).alloc (Nat.le_refl _) _⟩
  show Ending.returned (.int .i64 (wrap64 (wrap64 (2 ^ n) - 1))) = _
  rw [hv]
set_option maxHeartbeats 8000000 in
set_option maxRecDepth 100000 in
theorem has_walk (n : Nat) (hn : n ≤ 12) (o0 o1 o2 o3 o4 o5 o6 o7 o8 o9 o10 o11 : Nat) (hlt : ∀ j, [o0, o1, o2, o3, o4, o5, o6, o7, o8, o9, o10, o11].getD j 0 < 4096) (s : Nat) (hs : s < 2 ^ n) (gt : Nat) (w : World) (ht : TownAt w gt (n : Int) [o0, o1, o2, o3, o4, o5, o6, o7, o8, o9, o10, o11]) :
    Calls Try.prog 23 #[.int .i64 (s : Int), .pointer (some ⟨gt, 0, none⟩)] w fun e w' => e = .returned (.bool (kerB n [o0, o1, o2, o3, o4, o5, o6, o7, o8, o9, o10, o11] s)) ∧ Below w.heap.size w w' := by
  have HE := Lib.hid (every_walk n hn o0 o1 o2 o3 o4 o5 o6 o7 o8 o9 o10 o11)
  have HK := Lib.hid (kernel_walk n hn o0 o1 o2 o3 o4 o5 o6 o7 o8 o9 o10 o11 hlt s hs)
  have h0 : w.cell? ⟨gt, 0, none⟩ = some (.int .i64 (n : Int)) := ht.zero
  have h1 : w.cell? ⟨gt, 1, none⟩ = some (.int .i64 (o0 : Int)) := ht.at 0 (by simp)
  have h2 : w.cell? ⟨gt, 2, none⟩ = some (.int .i64 (o1 : Int)) := ht.at 1 (by simp)
  have h3 : w.cell? ⟨gt, 3, none⟩ = some (.int .i64 (o2 : Int)) := ht.at 2 (by simp)
  have h4 : w.cell? ⟨gt, 4, none⟩ = some (.int .i64 (o3 : Int)) := ht.at 3 (by simp)
  have h5 : w.cell? ⟨gt, 5, none⟩ = some (.int .i64 (o4 : Int)) := ht.at 4 (by simp)
  have h6 : w.cell? ⟨gt, 6, none⟩ = some (.int .i64 (o5 : Int)) := ht.at 5 (by simp)
  have h7 : w.cell? ⟨gt, 7, none⟩ = some (.int .i64 (o6 : Int)) := ht.at 6 (by simp)
  have h8 : w.cell? ⟨gt, 8, none⟩ = some (.int .i64 (o7 : Int)) := ht.at 7 (by simp)
  have h9 : w.cell? ⟨gt, 9, none⟩ = some (.int .i64 (o8 : Int)) := ht.at 8 (by simp)
  have h10 : w.cell? ⟨gt, 10, none⟩ = some (.int .i64 (o9 : Int)) := ht.at 9 (by simp)
  have h11 : w.cell? ⟨gt, 11, none⟩ = some (.int .i64 (o10 : Int)) := ht.at 10 (by simp)
  have h12 : w.cell? ⟨gt, 12, none⟩ = some (.int .i64 (o11 : Int)) := ht.at 11 (by simp)
  unfold townL at HE HK
  obtain ⟨p, hp⟩ : ∃ p, ((2 ^ n - 1 : Nat) : Int) = p := ⟨_, rfl⟩
  rw [hp] at HE HK
  obtain ⟨r, hr⟩ : ∃ r, kerB n [o0, o1, o2, o3, o4, o5, o6, o7, o8, o9, o10, o11] s = r := ⟨_, rfl⟩
  rw [hr] at HK ⊢
  clear hn hlt hs hp hr ht
  go_enter Try.func23, Try.ntmps23
  go_wp2
  go_region_held3 (fun W => W.cell? ⟨gt, 0, none⟩ = some (.int .i64 (n : Int)) ∧ W.cell? ⟨gt, 1, none⟩ = some (.int .i64 (o0 : Int)) ∧ W.cell? ⟨gt, 2, none⟩ = some (.int .i64 (o1 : Int)) ∧ W.cell? ⟨gt, 3, none⟩ = some (.int .i64 (o2 : Int)) ∧ W.cell? ⟨gt, 4, none⟩ = some (.int .i64 (o3 : Int)) ∧ W.cell? ⟨gt, 5, none⟩ = some (.int .i64 (o4 : Int)) ∧ W.cell? ⟨gt, 6, none⟩ = some (.int .i64 (o5 : Int)) ∧ W.cell? ⟨gt, 7, none⟩ = some (.int .i64 (o6 : Int)) ∧ W.cell? ⟨gt, 8, none⟩ = some (.int .i64 (o7 : Int)) ∧ W.cell? ⟨gt, 9, none⟩ = some (.int .i64 (o8 : Int)) ∧ W.cell? ⟨gt, 10, none⟩ = some (.int .i64 (o9 : Int)) ∧ W.cell? ⟨gt, 11, none⟩ = some (.int .i64 (o10 : Int)) ∧ W.cell? ⟨gt, 12, none⟩ = some (.int .i64 (o11 : Int)) ∧ Below w.heap.size w W)
    (first | assumption | (exact keep13 (by assumption) (by assumption)) | (exact ⟨h0, h1, h2, h3, h4, h5, h6, h7, h8, h9, h10, h11, h12, below_drew (Below.refl _ _)⟩))
    (first
      | (go_at_call 18; refine (HE.out _).mono ?_; rintro e w1 ⟨rfl, hb1⟩)
      | (go_at_call 17; refine (HK.out _).mono ?_; rintro e w2 ⟨rfl, hb2⟩))
  rename_i hS
  have HB := Aside0.mk hS.2.2.2.2.2.2.2.2.2.2.2.2.2
  go_wp2
  go_ret
  exact ⟨rfl, HB.out⟩
end Go.Proofs.Ytagmadfllfcloaa.PC
end
section
set_option linter.unusedVariables false
set_option linter.unusedSimpArgs false
namespace Go.Proofs.Ytagmadfllfcloaa.PC
open Go.RowKit Go.Proofs.YtagmadfllfcloaaW.PrintWords Go.Proofs.YtagmadfllfcloaaW.PrintLast Go.Proofs.YtagmadfllfcloaaW.PrintMore
attribute [local go_sem] max2_int min2_int max_two min_two max_three min_three max_four min_four   -- for this text's walks alone
set_option linter.unusedVariables false
set_option linter.unusedSimpArgs false
/-! ### shave_members: function 14 -/
def shave_members.l0 : Nat → Int → List Int → Int → Option (List Int)
 | 0, _, _, _ => none
 | k + 1, x0, x3, x4 => if 0 ≤ x4 then (if (shr .i64 x0 x4) > 0 then (if (Go.bits .and .i64 (shr .i64 x0 x4) 1) = 1 then (if x3.length < 17592186044416 then (shave_members.l0 k x0 (x3 ++ [x4]) (wrap64 (x4 + 1))) else (none)) else (shave_members.l0 k x0 x3 (wrap64 (x4 + 1)))) else (some x3)) else (none)
def shave_members.f (k : Nat) (a0 : Int) : Option (List Int) := shave_members.l0 k a0 ([] : List Int) 0
theorem shave_members.mono_l : ∀ k, (∀ y0 y1 y2, LeO (shave_members.l0 k y0 y1 y2) (shave_members.l0 (k + 1) y0 y1 y2))
 | 0 => fun _ _ _ r h => by simp [shave_members.l0] at h
 | k + 1 => by
  have ih0 := shave_members.mono_l k
  ·intro y0 y1 y2
   unfold shave_members.l0
   repeat' first
   | (with_reducible exact ih0 _ _ _)
   | (with_reducible exact LeO.refl _)
   | (with_reducible exact LeO.none _)
   | (with_reducible refine LeO.ite ?_ ?_)
   | (with_reducible refine LeO.bind ?_ (fun _ => ?_))
   | exact ih0 _ _ _
   | exact LeO.none _
   | refine LeO.ite ?_ ?_
   | refine LeO.bind ?_ (fun _ => ?_)
theorem shave_members.mono : ∀ a0 k, LeO (shave_members.f k a0) (shave_members.f (k + 1) a0) := by
 intro a0 k
 have ih0 := shave_members.mono_l k
 unfold shave_members.f
 repeat' first
   | (with_reducible exact ih0 _ _ _)
   | (with_reducible exact LeO.refl _)
   | (with_reducible exact LeO.none _)
   | (with_reducible refine LeO.ite ?_ ?_)
   | (with_reducible refine LeO.bind ?_ (fun _ => ?_))
   | exact ih0 _ _ _
   | exact LeO.none _
   | refine LeO.ite ?_ ?_
   | refine LeO.bind ?_ (fun _ => ?_)
set_option maxHeartbeats 8000000 in
set_option maxRecDepth 100000 in
theorem shave_members.calls (k : Nat) (a0 : Int) (r : List Int) (w : World) (h : shave_members.f k a0 = some r) :
  Calls Try.prog 14 #[.int .i64 a0] w fun e w' => ∃ v0_ : Value, e = .returned (v0_) ∧ Kd.R (Kd.int .i64) 3 w' w.heap.size (fun _ => True) v0_ r ∧ Below w.heap.size w w' := by
 have HB := Aside0.mk (Below.refl w.heap.size w)
 have H : (shave_members.l0 k a0 ([] : List Int) 0) = some r := h
 clear h
 have H' := Aside0.mk H
 clear H
 go_enter Try.func14, Try.ntmps14
 go_wp2
 go_loopg [3, 4] k (fun kq v3 v4 w' => ∃ (x3_1 : List Int) (x4_1 : Int), v4 = .int .i64 x4_1 ∧ Aside0 (shave_members.l0 kq a0 x3_1 x4_1 = some r) ∧ Aside0 (kq ≤ k) ∧ Aside0 (Kd.R (Kd.int .i64) 3 w' w.heap.size (fun _ => True) v3 x3_1) ∧ Aside0 (Below w.heap.size w w'))
 case atStart => exact ⟨(([] : List Int)), (0), (by first | rfl | (simp; done) | (simp [*]; done)), H', ⟨Nat.le_refl _⟩, ⟨by first | exact Kd.R_nil _ _ _ _ _ | exact Kd.N_nil _ _ _ _ _ | exact Kd.V_nil _ _ _ _ _ | exact Kd.Q_nil _ _ _ _ _ | exact Kd.S_nil _ _ _ _ _⟩, ⟨by repeat (first | (with_reducible first | exact HB.out | apply below_alloc | apply pw_below_drewN | apply below_drew1) | exact HB.out)⟩⟩
 case round =>
  clear H'
  try clear c1
  obtain ⟨x3_1, x4_1, rfl, HA, HK1, HO_3, HB⟩ := hrel
  cases gk with
  | zero => exact absurd HA.out (by simp [shave_members.l0])
  | succ k1 =>
   have H := HA.out
   clear HA
   simp only [shave_members.l0] at H
   by_cases c2 : 0 ≤ x4_1
   ·rw [if_pos c2] at H
    have c2b0 := eq_true c2
    have c2b1 : decide (0 ≤ x4_1) = true := decide_eq_true c2
    clear c2
    obtain ⟨ji3, hji3⟩ : ∃ j_ : Int, (shr .i64 a0 x4_1) = j_ := ⟨_, rfl⟩
    replace H : (if (ji3) > 0 then (if (Go.bits .and .i64 (ji3) 1) = 1 then (if x3_1.length < 17592186044416 then (shave_members.l0 k1 a0 (x3_1 ++ [x4_1]) (wrap64 (x4_1 + 1))) else (none)) else (shave_members.l0 k1 a0 x3_1 (wrap64 (x4_1 + 1)))) else (some x3_1)) = some r := by first | (rw [hji3] at H; exact H) | (simp only [hji3] at H ⊢; exact H)
    have hji3_ : (a0 / 2 ^ min x4_1.toNat 64) = ji3 := hji3
    have hji3z : x4_1 ≤ 64 → (a0 / 2 ^ x4_1.toNat) = ji3 := shr_small hji3
    by_cases c4 : (ji3) > 0
    ·rw [if_pos c4] at H
     have c4b0 : decide (0 < (ji3)) = true := decide_eq_true c4
     clear c4
     have c5b0 := eq_true (of_decide_eq_true (by first | (with_reducible assumption) | assumption) : 0 ≤ x4_1)
     by_cases c7 : (Go.bits .and .i64 (ji3) 1) = 1
     ·rw [if_pos c7] at H
      have c7b0 : ((Go.bits .and .i64 (ji3) 1) == 1) = true := beq_iff_eq.mpr c7
      have c7b1 : ((Go.bits .and .i64 (ji3) 1) != 1) = false := bne_eq_false_iff_eq.mpr c7
      clear c7
      by_cases c8 : x3_1.length < 17592186044416
      ·rw [if_pos c8] at H
       have LMc8 := Aside0.mk c8
       clear c8
       obtain ⟨y101, hy101⟩ : ∃ y_ : List Int, y_ = (x3_1 ++ [x4_1]) := ⟨_, rfl⟩
       replace H : (shave_members.l0 k1 a0 y101 (wrap64 (x4_1 + 1))) = some r := by first | (rw [hy101]; with_reducible exact H) | (have H2_ := (Option.bind_some _ _).symm.trans H; rw [hy101]; with_reducible exact H2_) | (have H2_ := (Option.bind_some _ _).symm.trans H; with_reducible exact H2_) | with_reducible exact H | (rw [hy101]; exact H) | exact H
       have Ny101 := Aside0.mk hy101
       clear hy101
       have H' := Aside0.mk H
       clear H
       go_wp2_with (first | ((with_reducible refine gate_builtin (b := .append) (xs := #[.tmp 16, .tmp 18]) rfl ?_); at_builtin; refine Kd.R_append (Kd.int .i64) (w0 := w) w.heap.size rfl (.tmp 16) (.tmp 18) 23 3 (.int .i64 0) 8 rfl Try.underlying23 info3 rfl (by decide) (by omega) u3 x3_1 x4_1 [.int .i64 x4_1] (fun _ => True) (fun _ => False) rfl rfl ?aP (fun _ hk => hk.elim) ?aF ?aO ?aB ?aS ?aL ?_; (case aP => exact rfl); (case aB => exact (by repeat (first | (with_reducible first | exact HB.out | apply below_alloc | apply pw_below_drewN | apply below_drew1) | exact HB.out))); (case aF => exact (fun _ _ => trivial)); (case aO => exact (by (with_reducible repeat (first | apply Kd.R_alloc | apply Kd.R_drewN | apply Kd.R_drew)); exact HO_3.out)); (case aS => exact (below_size (by repeat (first | (with_reducible first | exact HB.out | apply below_alloc | apply pw_below_drewN | apply below_drew1) | exact HB.out)))); (case aL => have := LMc8.out; omega); intro v102 w9 ho hb hg hat; rw [← Ny101.out] at ho; have n0_ := Aside0.mk (hb); have n1_ := Aside0.mk (ho); clear HB; clear HO_3; have HB := n0_; have HO103 := n1_; clear n0_ n1_; clear ho hb hg hat))
       go_roundg k1
       case measure => have := HK1.out; omega
       case rel => exact ⟨(y101), (wrap64 (x4_1 + 1)), (by first | rfl | (simp; done) | (simp [*]; done)), H', ⟨by have := HK1.out; omega⟩, ⟨by (with_reducible repeat (first | apply Kd.R_alloc | apply Kd.R_drewN | apply Kd.R_drew)); exact HO103.out⟩, ⟨by repeat (first | (with_reducible first | exact HB.out | apply below_alloc | apply pw_below_drewN | apply below_drew1) | exact HB.out)⟩⟩
      ·rw [if_neg c8] at H
       exact absurd H (by simp)
     ·rw [if_neg c7] at H
      have c7b0 : ((Go.bits .and .i64 (ji3) 1) == 1) = false := beq_eq_false_iff_ne.mpr c7
      have c7b1 : ((Go.bits .and .i64 (ji3) 1) != 1) = true := bne_iff_ne.mpr c7
      have H' := Aside0.mk H
      clear H
      go_wp2
      go_roundg k1
      case measure => have := HK1.out; omega
      case rel => exact ⟨(x3_1), (wrap64 (x4_1 + 1)), (by first | rfl | (simp; done) | (simp [*]; done)), H', ⟨by have := HK1.out; omega⟩, ⟨by (with_reducible repeat (first | apply Kd.R_alloc | apply Kd.R_drewN | apply Kd.R_drew)); exact HO_3.out⟩, ⟨by repeat (first | (with_reducible first | exact HB.out | apply below_alloc | apply pw_below_drewN | apply below_drew1) | exact HB.out)⟩⟩
    ·rw [if_neg c4] at H
     have c4b0 : decide (0 < (ji3)) = false := decide_eq_false c4
     clear c4
     obtain rfl := Option.some.inj H
     go_wp2
     go_ret
     exact ⟨_, by first | rfl | (simp [errW_none, errW_some] <;> rfl) | (simp only [← hji3]; first | rfl | (simp [errW_none, errW_some] <;> rfl)) | (simp [*, errW_none, errW_some] <;> rfl), by (with_reducible repeat (first | apply Kd.R_alloc | apply Kd.R_drewN | apply Kd.R_drew)); exact HO_3.out, by repeat (first | (with_reducible first | exact HB.out | apply below_alloc | apply pw_below_drewN | apply below_drew1) | exact HB.out)⟩
   ·rw [if_neg c2] at H
    exact absurd H (by simp)
end Go.Proofs.Ytagmadfllfcloaa.PC
end
section
set_option linter.unusedVariables false
set_option linter.unusedSimpArgs false
/- shave.members, plainly. -/
namespace Go.Proofs.Ytagmadfllfcloaa.PC
open Go.RowKit Go.Proofs.YtagmadfllfcloaaW.PrintWords Go.Proofs.YtagmadfllfcloaaW.PrintLast Go.Proofs.YtagmadfllfcloaaW.PrintMore
/-- The members of a set, ascending. -/
def memN (s : Nat) : List Nat := (List.range 12).filter (fun i => s.testBit i)
def memI (s : Nat) : List Int := (memN s).map (fun x : Nat => (x : Int))
theorem members_all : (List.range 4096).all (fun s => decide (shave_members.f 14 (s : Int) = some (memI s))) = true := by decide +kernel
theorem members_val (s : Nat) (h : s < 4096) : shave_members.f 14 (s : Int) = some (memI s) := of_decide_eq_true ((List.all_eq_true.1 members_all) s (List.mem_range.2 h))
theorem members_calls (s : Nat) (h : s < 4096) (w : World) :
    Calls Try.prog 14 #[.int .i64 (s : Int)] w fun e w' => ∃ v0_ : Value, e = .returned (v0_) ∧ Kd.R (Kd.int .i64) 3 w' w.heap.size (fun _ => True) v0_ (memI s) ∧ Below w.heap.size w w' := shave_members.calls 14 _ _ w (members_val s h)
theorem memN_lt {s x : Nat} (h : x ∈ memN s) : x < 12 := List.mem_range.1 (List.mem_filter.1 h).1
end Go.Proofs.Ytagmadfllfcloaa.PC
end
